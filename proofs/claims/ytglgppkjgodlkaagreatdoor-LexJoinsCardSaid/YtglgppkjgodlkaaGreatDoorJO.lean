/- The reference of package lex, walked over deep values: Join. Conditions: none. -/
import Derived.Test.YtglgppkjgodlkaaGreatDoorJI
namespace Go.Proofs.YtglgppkjgodlkaaGreatDoor.J
open Go.Dp Rl
set_option linter.unusedVariables false
set_option linter.unusedSimpArgs false
/-- The text of the first tokens. -/
noncomputable def joinN (L : List Tz) (i : Nat) : Lex.Bytes := Lex.joinL ((L.take i).map Tz.tok)
theorem joinN_one {L : List Tz} {t : Tz} (h : L[0]? = some t) : joinN L 1 = t.tok.txt := by
  unfold joinN
  match L, h with
  | x :: r, h => cases h; rfl
theorem joinN_next {L : List Tz} {i : Nat} {p t : Tz} (hp : L[i]? = some p) (ht : L[i + 1]? = some t) : joinN L (i + 2) = joinN L (i + 1) ++ (Lex.sepL p.tok t.tok ++ t.tok.txt) := by
  unfold joinN
  have e1 : L.take (i + 1) = L.take i ++ [p] := by rw [List.take_add_one, hp]; rfl
  have e2 : L.take (i + 2) = (L.take i ++ [p]) ++ [t] := by rw [show i + 2 = (i + 1) + 1 from rfl, List.take_add_one, ht, e1]; rfl
  rw [e2, e1]
  simp only [List.map_append, List.map_cons, List.map_nil]
  exact join_snoc _ _ _
theorem sep_of (a b : Lex.Tok) : Lex.sepL a b = if apartB a b = true then [] else [32] := by
  unfold Lex.sepL
  by_cases h : Lex.Apart a b
  · rw [if_pos h, if_pos (apartB_iff.2 h)]
  · rw [if_neg h, if_neg (fun e => h (apartB_iff.1 e))]
section
variable (I : World → Prop)
set_option maxRecDepth 20000 in set_option maxHeartbeats 4000000 in
theorem sim_RJoin (hI : ItoaAll I) (L : List Tz) (hl : L.length ≤ 2000) (hf : ∀ t, t ∈ L → FineZ t) (hall : (L.all fun t => rightB t.tok) = true) (hsh : (Lex.joinL (L.map Tz.tok)).length ≤ 100000) :
    Sim Tryz.prog I 30 [.sl 5 (ezs L)] [] (fun o τ => o = .ret (.tu [str (bs (Lex.joinL (L.map Tz.tok))), i64 0]) ∧ τ = []) := by
  have hlen := ezs_length L
  have hrs := sim_Rights I hI L (by omega) hf
  rw [hall] at hrs
  have hra : ∀ t, t ∈ L → rightB t.tok = true := fun t ht => List.all_eq_true.1 hall t ht
  refine sim_body Tryz.func30 rfl rfl rfl ?_
  repeat (any_goals (first | refine s_at ?_ | refine s_skip ?_ | refine s_off ?_ | refine s_offn ?_ | refine s_move ?_ | refine s_assign ?_ | refine s_load ?_ | refine s_loade ?_ | refine s_loadd ?_ | refine s_pick1 ?_ | refine s_pick0 ?_ | refine s_pure ?_ | refine s_nil ?_ | refine aw_seq ?_ | refine aw_seqr ?_ | refine aw_block ?_ | refine aw_true ?_ | refine aw_false ?_ | refine s_alloc (fun _ => ?_) | refine s_allocd (fun _ => ?_) | refine s_box (fun _ => ?_) | refine s_box1 (fun _ => ?_) | refine s_store' ?_ | (refine s_cmp (fun h => ?_) (fun h => ?_) <;> try (exfalso; omega)) | refine s_call0 hrs ?_ | refine s_lit0 (fun _ => ?_)))
  rename_i kk
  refine aw_loop (fun s : Nat × Lex.Bytes => [(0, .sl 5 (ezs L)), (4, .os kk 1 (byL s.2)), (5, i64 (s.1 : Int))]) (fun s => [.tok kk 5 1 (byL s.2).length])
    (fun s => s.1 ≤ L.length ∧ s.2 = joinN L s.1 ∧ s.2.length ≤ 30000 * s.1) (fun s => L.length - s.1) (0, []) ⟨Nat.zero_le _, rfl, Nat.zero_le _⟩ (EnvLe.of_list (by intro x hx; simp only [List.mem_cons, List.not_mem_nil, or_false] at hx; (repeat (rcases hx with rfl | hx; (focus rfl))); (try (subst hx; rfl)))) [] (List.Perm.refl _) ?_
  rintro ⟨i, acc⟩ ⟨i1, i2, i3⟩
  dsimp only at i1 i2 i3 ⊢
  have hal := byL_length acc
  by_cases hi : i < L.length
  · have hx : L[i]? = some (L[i]'hi) := List.getElem?_eq_getElem hi
    have hmx := List.getElem_mem hi
    generalize L[i]'hi = t at hx hmx
    have hft := hf t hmx
    have htl := hft.len
    have htx := sim_Text I hI t hft.n0 hft.n1
    have hg := ezs_get hx
    have hbz := bs_size t.tok.txt
    have hbl : byL (bs t.tok.txt).data.toList = byL t.tok.txt := rfl
    rw [ez_cells] at htx hg
    cases i with
    | zero =>
      have hj := joinN_one hx
      have h0 : acc = [] := by rw [i2]; rfl
      subst h0
      repeat (any_goals (first | refine s_at ?_ | refine s_skip ?_ | refine s_off ?_ | refine s_offn ?_ | refine s_move ?_ | refine s_assign ?_ | refine s_load ?_ | refine s_loade ?_ | refine s_loadd ?_ | refine s_pick1 ?_ | refine s_pick0 ?_ | refine s_pure ?_ | refine s_nil ?_ | refine aw_seq ?_ | refine aw_seqr ?_ | refine aw_block ?_ | refine aw_true ?_ | refine aw_false ?_ | refine s_alloc (fun _ => ?_) | refine s_allocd (fun _ => ?_) | refine s_box (fun _ => ?_) | refine s_box1 (fun _ => ?_) | refine s_store' ?_ | (refine s_cmp (fun h => ?_) (fun h => ?_) <;> try (exfalso; omega)) | refine s_elem 0 hg ?_ | refine s_call0 htx ?_ | refine s_appends ?_ | refine s_add ?_))
      refine d_end fun env' he => ?_
      (repeat (first | refine inb_nor ?_ | refine then_nor ?_))
      refine ⟨(1, t.tok.txt), _, ⟨by dsimp only; omega, hj.symm, by dsimp only; omega⟩, by dsimp only; omega, EnvLe.of_eq he (EnvLe.of_list (by intro x hx; simp only [List.mem_cons, List.not_mem_nil, or_false] at hx; (repeat (rcases hx with rfl | hx; (focus rfl))); (try (subst hx; rfl)))), Picks.perm (by (repeat (first | exact Picks.nil _ | (apply Picks.cons; focus ((repeat (first | exact Pick.here _ | apply Pick.there)); (first | done | fail))))))⟩
    | succ i =>
      have hp : L[i]? = some (L[i]'(by omega)) := List.getElem?_eq_getElem (by omega)
      have hmp : L[i]'(by omega) ∈ L := List.getElem_mem (by omega)
      generalize L[i]'(by omega) = p at hp hmp
      have hj := joinN_next hp hx
      rw [← i2, sep_of] at hj
      have hgp := ezs_get hp
      have hap := sim_RApart I hI p t (hf p hmp) hft
      unfold apartR at hap
      rw [hra p hmp, hra t hmx, show (true && true) = true from rfl, if_pos rfl] at hap
      rw [ez_cells] at hgp
      rw [ez_cells p, ez_cells t] at hap
      dsimp only at hap
      cases hb : apartB p.tok t.tok with
      | true =>
        rw [hb] at hap hj
        rw [if_pos rfl, List.nil_append] at hj
        repeat (any_goals (first | refine s_at ?_ | refine s_skip ?_ | refine s_off ?_ | refine s_offn ?_ | refine s_move ?_ | refine s_assign ?_ | refine s_load ?_ | refine s_loade ?_ | refine s_loadd ?_ | refine s_pick1 ?_ | refine s_pick0 ?_ | refine s_pure ?_ | refine s_nil ?_ | refine aw_seq ?_ | refine aw_seqr ?_ | refine aw_block ?_ | refine aw_true ?_ | refine aw_false ?_ | refine s_alloc (fun _ => ?_) | refine s_allocd (fun _ => ?_) | refine s_box (fun _ => ?_) | refine s_box1 (fun _ => ?_) | refine s_store' ?_ | (refine s_cmp (fun h => ?_) (fun h => ?_) <;> try (exfalso; omega)) | refine s_elem (i + 1) hg ?_ | refine s_elem i hgp ?_ | refine s_call0 hap ?_ | refine s_call0 htx ?_ | refine s_appends ?_ | refine s_draw [] ?_ | refine s_sub ?_ | refine s_add ?_))
        rw [hbl, ← byL_append]
        refine d_end fun env' he => ?_
        (repeat (first | refine inb_nor ?_ | refine then_nor ?_))
        refine ⟨(i + 2, acc ++ t.tok.txt), _, ⟨by dsimp only; omega, hj.symm, by dsimp only; rw [List.length_append]; omega⟩, by dsimp only; omega, EnvLe.of_eq he (EnvLe.of_list (by intro x hx; simp only [List.mem_cons, List.not_mem_nil, or_false] at hx; (repeat (rcases hx with rfl | hx; (focus rfl))); (try (subst hx; rfl)))), Picks.perm (by (repeat (first | exact Picks.nil _ | (apply Picks.cons; focus ((repeat (first | exact Pick.here _ | apply Pick.there)); (first | done | fail))))))⟩
      | false =>
        rw [hb] at hap hj
        rw [if_neg (by simp), ← List.append_assoc] at hj
        have h32 : byL acc ++ [byV 32] = byL (acc ++ [32]) := by rw [byL_append]; rfl
        have hal2 : (byL (acc ++ [32])).length = acc.length + 1 := by rw [byL_length, List.length_append]; rfl
        repeat (any_goals (first | refine s_at ?_ | refine s_skip ?_ | refine s_off ?_ | refine s_offn ?_ | refine s_move ?_ | refine s_assign ?_ | refine s_load ?_ | refine s_loade ?_ | refine s_loadd ?_ | refine s_pick1 ?_ | refine s_pick0 ?_ | refine s_pure ?_ | refine s_nil ?_ | refine aw_seq ?_ | refine aw_seqr ?_ | refine aw_block ?_ | refine aw_true ?_ | refine aw_false ?_ | refine s_alloc (fun _ => ?_) | refine s_allocd (fun _ => ?_) | refine s_box (fun _ => ?_) | refine s_box1 (fun _ => ?_) | refine s_store' ?_ | (refine s_cmp (fun h => ?_) (fun h => ?_) <;> try (exfalso; omega)) | refine s_elem (i + 1) hg ?_ | refine s_elem i hgp ?_ | refine s_call0 hap ?_ | refine s_call0 htx ?_ | (refine s_append (ys := [byV 32]) ?_; rw [h32]) | refine s_appends ?_ | refine s_lit (fun kk2 => ?_) | refine s_draw [] ?_ | refine s_sub ?_ | refine s_add ?_))
        rw [hbl, ← byL_append]
        refine d_end fun env' he => ?_
        (repeat (first | refine inb_nor ?_ | refine then_nor ?_))
        refine ⟨(i + 2, acc ++ [32] ++ t.tok.txt), _, ⟨by dsimp only; omega, hj.symm, by dsimp only; rw [List.length_append, List.length_append]; simp only [List.length_cons, List.length_nil]; omega⟩, by dsimp only; omega, EnvLe.of_eq he (EnvLe.of_list (by intro x hx; simp only [List.mem_cons, List.not_mem_nil, or_false] at hx; (repeat (rcases hx with rfl | hx; (focus rfl))); (try (subst hx; rfl)))), Picks.perm (by (repeat (first | exact Picks.nil _ | (apply Picks.cons; focus ((repeat (first | exact Pick.here _ | apply Pick.there)); (first | done | fail))))))⟩
  · obtain rfl : i = L.length := by omega
    have hj : acc = Lex.joinL (L.map Tz.tok) := by rw [i2, joinN, List.take_length]
    rw [← hj] at hsh ⊢
    repeat (any_goals (first | refine s_at ?_ | refine s_skip ?_ | refine s_off ?_ | refine s_offn ?_ | refine s_move ?_ | refine s_assign ?_ | refine s_load ?_ | refine s_loade ?_ | refine s_loadd ?_ | refine s_pick1 ?_ | refine s_pick0 ?_ | refine s_pure ?_ | refine s_nil ?_ | refine aw_seq ?_ | refine aw_seqr ?_ | refine aw_block ?_ | refine aw_true ?_ | refine aw_false ?_ | refine s_alloc (fun _ => ?_) | refine s_allocd (fun _ => ?_) | refine s_box (fun _ => ?_) | refine s_box1 (fun _ => ?_) | refine s_store' ?_ | (refine s_cmp (fun h => ?_) (fun h => ?_) <;> try (exfalso; omega))))
    refine aw_exit ?_; (repeat refine then_exit ?_); refine inb_exit ?_; refine then_nor ?_
    repeat (any_goals (first | refine s_at ?_ | refine s_skip ?_ | refine s_off ?_ | refine s_offn ?_ | refine s_move ?_ | refine s_assign ?_ | refine s_load ?_ | refine s_loade ?_ | refine s_loadd ?_ | refine s_pick1 ?_ | refine s_pick0 ?_ | refine s_pure ?_ | refine s_nil ?_ | refine aw_seq ?_ | refine aw_seqr ?_ | refine aw_block ?_ | refine aw_true ?_ | refine aw_false ?_ | refine s_alloc (fun _ => ?_) | refine s_allocd (fun _ => ?_) | refine s_box (fun _ => ?_) | refine s_box1 (fun _ => ?_) | refine s_store' ?_ | (refine s_cmp (fun h => ?_) (fun h => ?_) <;> try (exfalso; omega)) | refine s_text (l := acc) rfl (isSl_os _ _ _) ?_))
    refine aw_ret ?_; (repeat (first | refine then_ret ?_ | refine inb_ret ?_))
    refine post_of ⟨?_, rfl⟩ (by (repeat' (first | exact ResVs.nil | apply ResVs.cons | (apply ResV.tmp; first | exact (rfl : _ = AV.sc _) | exact (rfl : _ = AV.ag _) | exact (rfl : _ = AV.sl _ _) | exact (rfl : _ = AV.os _ _ _) | exact (rfl : _ = AV.fn _ _ _)) | (apply ResV.cells; rfl; apply Pick.mem; (repeat (first | exact Pick.here _ | apply Pick.there)); rfl; rfl; rfl; (first | rfl | simp only [ones, List.all_cons, List.all_nil, Bool.and_true, one_int, one_bool, one_str, one_ptr, one_slice, one_sl, one_os, *])) | (apply ResV.cell; rfl; apply Pick.mem; (repeat (first | exact Pick.here _ | apply Pick.there)); rfl; rfl; rfl)))) (by (repeat (first | exact Picks.nil _ | (apply Picks.cons; focus ((repeat (first | exact Pick.here _ | apply Pick.there)); (first | done | fail))))))
    rfl
end
end Go.Proofs.YtglgppkjgodlkaaGreatDoor.J
