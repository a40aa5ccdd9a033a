/- The reference of package lex, walked over deep values: Rights, Apart, Join. Conditions: none. -/
import Derived.Test.YtglgppkjgodlkaaGreatDoorJH
namespace Go.Proofs.YtglgppkjgodlkaaGreatDoor.J
open Go.Dp Rl
set_option linter.unusedVariables false
set_option linter.unusedSimpArgs false
def ezs (L : List Tz) : List AV := L.map ez
theorem ezs_length (L : List Tz) : (ezs L).length = L.length := List.length_map ..
theorem ezs_get {L : List Tz} {i : Nat} {t : Tz} (h : L[i]? = some t) : (ezs L)[i]? = some (ez t) := by rw [ezs, List.getElem?_map, h]; rfl
/-- Whether two tokens can stand side by side, and the error. -/
def apartR (a b : Lex.Tok) : Bool × Int := if rightB a && rightB b then (apartB a b, 0) else (false, 1)
/-- The text of the first tokens. -/
noncomputable def joinT : List Lex.Tok → Lex.Bytes := Lex.joinL
theorem join_snoc : ∀ (L : List Lex.Tok) (a b : Lex.Tok), Lex.joinL ((L ++ [a]) ++ [b]) = Lex.joinL (L ++ [a]) ++ (Lex.sepL a b ++ b.txt)
  | [], a, b => rfl
  | [c], a, b => by
    show c.txt ++ (Lex.sepL c a ++ (a.txt ++ (Lex.sepL a b ++ b.txt))) = (c.txt ++ (Lex.sepL c a ++ a.txt)) ++ (Lex.sepL a b ++ b.txt)
    simp only [List.append_assoc]
  | c :: d :: L, a, b => by
    have ih := join_snoc (d :: L) a b
    simp only [List.cons_append] at ih ⊢
    rw [Lex.joinL, ih, Lex.joinL]
    simp only [List.append_assoc]
section
variable (I : World → Prop)
set_option maxRecDepth 20000 in set_option maxHeartbeats 4000000 in
theorem sim_Rights (hI : ItoaAll I) (L : List Tz) (hL : L.length ≤ 1000000) (hf : ∀ t, t ∈ L → FineZ t) : Sim Tryz.prog I 25 [.sl 5 (ezs L)] [] (fun o τ => o = .ret (boo (L.all fun t => rightB t.tok)) ∧ τ = []) := by
  have hlen := ezs_length L
  refine sim_body Tryz.func25 rfl rfl rfl ?_
  repeat (any_goals (first | refine s_at ?_ | refine s_skip ?_ | refine s_off ?_ | refine s_offn ?_ | refine s_move ?_ | refine s_assign ?_ | refine s_load ?_ | refine s_loade ?_ | refine s_loadd ?_ | refine s_pick1 ?_ | refine s_pick0 ?_ | refine s_pure ?_ | refine s_nil ?_ | refine aw_seq ?_ | refine aw_seqr ?_ | refine aw_block ?_ | refine aw_true ?_ | refine aw_false ?_ | refine s_alloc (fun _ => ?_) | refine s_allocd (fun _ => ?_) | refine s_box (fun _ => ?_) | refine s_box1 (fun _ => ?_) | refine s_store' ?_))
  refine aw_loop (fun i : Nat => [(0, .sl 5 (ezs L)), (3, i64 (i : Int))]) (fun _ => []) (fun i => i ≤ L.length ∧ ((L.drop i).all fun t => rightB t.tok) = L.all fun t => rightB t.tok) (fun i => L.length - i) 0 ⟨by omega, rfl⟩ (EnvLe.of_list (by intro x hx; simp only [List.mem_cons, List.not_mem_nil, or_false] at hx; (repeat (rcases hx with rfl | hx; (focus rfl))); (try (subst hx; rfl)))) [] (List.Perm.refl _) ?_
  rintro i ⟨i1, i2⟩
  by_cases hi : i < L.length
  · have hx : L[i]? = some (L[i]'hi) := List.getElem?_eq_getElem hi
    have hfx := hf _ (List.getElem_mem hi)
    rw [List.drop_eq_getElem_cons hi, List.all_cons] at i2
    generalize L[i]'hi = x at hx i2 hfx
    have hr := sim_Right I hI x hfx
    have hg := ezs_get hx
    rw [ez_cells] at hr hg
    cases hb : rightB x.tok with
    | false =>
      rw [hb] at hr i2
      repeat (any_goals (first | refine s_at ?_ | refine s_skip ?_ | refine s_off ?_ | refine s_offn ?_ | refine s_move ?_ | refine s_assign ?_ | refine s_load ?_ | refine s_loade ?_ | refine s_loadd ?_ | refine s_pick1 ?_ | refine s_pick0 ?_ | refine s_pure ?_ | refine s_nil ?_ | refine aw_seq ?_ | refine aw_seqr ?_ | refine aw_block ?_ | refine aw_true ?_ | refine aw_false ?_ | refine s_alloc (fun _ => ?_) | refine s_allocd (fun _ => ?_) | refine s_box (fun _ => ?_) | refine s_box1 (fun _ => ?_) | refine s_store' ?_ | (refine s_cmp (fun h => ?_) (fun h => ?_) <;> try (exfalso; omega)) | refine s_elem i hg ?_ | refine s_call0 hr ?_ | refine s_add ?_))
      refine aw_ret ?_; (repeat (first | refine then_ret ?_ | refine inb_ret ?_))
      refine post_of ⟨ret_boo ?_, rfl⟩ (by (repeat' (first | exact ResVs.nil | apply ResVs.cons | (apply ResV.tmp; first | exact (rfl : _ = AV.sc _) | exact (rfl : _ = AV.ag _) | exact (rfl : _ = AV.sl _ _) | exact (rfl : _ = AV.os _ _ _) | exact (rfl : _ = AV.fn _ _ _)) | (apply ResV.cells; rfl; apply Pick.mem; (repeat (first | exact Pick.here _ | apply Pick.there)); rfl; rfl; rfl; (first | rfl | simp only [ones, List.all_cons, List.all_nil, Bool.and_true, one_int, one_bool, one_str, one_ptr, one_slice, one_sl, one_os, *])) | (apply ResV.cell; rfl; apply Pick.mem; (repeat (first | exact Pick.here _ | apply Pick.there)); rfl; rfl; rfl)))) (by (repeat (first | exact Picks.nil _ | (apply Picks.cons; focus ((repeat (first | exact Pick.here _ | apply Pick.there)); (first | done | fail))))))
      rw [← i2]; rfl
    | true =>
      rw [hb] at hr i2
      repeat (any_goals (first | refine s_at ?_ | refine s_skip ?_ | refine s_off ?_ | refine s_offn ?_ | refine s_move ?_ | refine s_assign ?_ | refine s_load ?_ | refine s_loade ?_ | refine s_loadd ?_ | refine s_pick1 ?_ | refine s_pick0 ?_ | refine s_pure ?_ | refine s_nil ?_ | refine aw_seq ?_ | refine aw_seqr ?_ | refine aw_block ?_ | refine aw_true ?_ | refine aw_false ?_ | refine s_alloc (fun _ => ?_) | refine s_allocd (fun _ => ?_) | refine s_box (fun _ => ?_) | refine s_box1 (fun _ => ?_) | refine s_store' ?_ | (refine s_cmp (fun h => ?_) (fun h => ?_) <;> try (exfalso; omega)) | refine s_elem i hg ?_ | refine s_call0 hr ?_ | refine s_add ?_))
      refine d_end fun env' he => ?_
      (repeat (first | refine inb_nor ?_ | refine then_nor ?_))
      refine ⟨i + 1, _, ⟨by omega, by rw [← i2, Bool.true_and]⟩, by omega, EnvLe.of_eq he (EnvLe.of_list (by intro x hx; simp only [List.mem_cons, List.not_mem_nil, or_false] at hx; (repeat (rcases hx with rfl | hx; (focus rfl))); (try (subst hx; rfl)))), Picks.perm (by (repeat (first | exact Picks.nil _ | (apply Picks.cons; focus ((repeat (first | exact Pick.here _ | apply Pick.there)); (first | done | fail))))))⟩
  · rw [List.drop_of_length_le (by omega)] at i2
    repeat (any_goals (first | refine s_at ?_ | refine s_skip ?_ | refine s_off ?_ | refine s_offn ?_ | refine s_move ?_ | refine s_assign ?_ | refine s_load ?_ | refine s_loade ?_ | refine s_loadd ?_ | refine s_pick1 ?_ | refine s_pick0 ?_ | refine s_pure ?_ | refine s_nil ?_ | refine aw_seq ?_ | refine aw_seqr ?_ | refine aw_block ?_ | refine aw_true ?_ | refine aw_false ?_ | refine s_alloc (fun _ => ?_) | refine s_allocd (fun _ => ?_) | refine s_box (fun _ => ?_) | refine s_box1 (fun _ => ?_) | refine s_store' ?_ | (refine s_cmp (fun h => ?_) (fun h => ?_) <;> try (exfalso; omega))))
    refine aw_exit ?_; (repeat refine then_exit ?_); refine inb_exit ?_; refine then_nor ?_
    repeat (any_goals (first | refine s_at ?_ | refine s_skip ?_ | refine s_off ?_ | refine s_offn ?_ | refine s_move ?_ | refine s_assign ?_ | refine s_load ?_ | refine s_loade ?_ | refine s_loadd ?_ | refine s_pick1 ?_ | refine s_pick0 ?_ | refine s_pure ?_ | refine s_nil ?_ | refine aw_seq ?_ | refine aw_seqr ?_ | refine aw_block ?_ | refine aw_true ?_ | refine aw_false ?_ | refine s_alloc (fun _ => ?_) | refine s_allocd (fun _ => ?_) | refine s_box (fun _ => ?_) | refine s_box1 (fun _ => ?_) | refine s_store' ?_))
    refine aw_ret ?_; (repeat (first | refine then_ret ?_ | refine inb_ret ?_))
    refine post_of ⟨ret_boo ?_, rfl⟩ (by (repeat' (first | exact ResVs.nil | apply ResVs.cons | (apply ResV.tmp; first | exact (rfl : _ = AV.sc _) | exact (rfl : _ = AV.ag _) | exact (rfl : _ = AV.sl _ _) | exact (rfl : _ = AV.os _ _ _) | exact (rfl : _ = AV.fn _ _ _)) | (apply ResV.cells; rfl; apply Pick.mem; (repeat (first | exact Pick.here _ | apply Pick.there)); rfl; rfl; rfl; (first | rfl | simp only [ones, List.all_cons, List.all_nil, Bool.and_true, one_int, one_bool, one_str, one_ptr, one_slice, one_sl, one_os, *])) | (apply ResV.cell; rfl; apply Pick.mem; (repeat (first | exact Pick.here _ | apply Pick.there)); rfl; rfl; rfl)))) (by (repeat (first | exact Picks.nil _ | (apply Picks.cons; focus ((repeat (first | exact Pick.here _ | apply Pick.there)); (first | done | fail))))))
    rw [← i2]; rfl
set_option maxRecDepth 20000 in set_option maxHeartbeats 4000000 in
theorem sim_RApart (hI : ItoaAll I) (x y : Tz) (hfx : FineZ x) (hfy : FineZ y) : Sim Tryz.prog I 36 [ez x, ez y] [] (fun o τ => o = .ret (.tu [boo (apartR x.tok y.tok).1, i64 (apartR x.tok y.tok).2]) ∧ τ = []) := by
  have hlx := hfx.len
  have hly := hfy.len
  have hrx := sim_Right I hI x hfx
  have hry := sim_Right I hI y hfy
  have htx := sim_Text I hI x hfx.n0 hfx.n1
  have hty := sim_Text I hI y hfy.n0 hfy.n1
  have hll : (x.tok.txt ++ y.tok.txt).length ≤ 100000 := by rw [List.length_append]; omega
  have htk := sim_rtokens I (bs x.tok.txt ++ bs y.tok.txt) (by show (bs x.tok.txt ++ bs y.tok.txt).size ≤ _; rw [ByteArray.size_append, bs_size, bs_size]; omega)
  have hcat : (bs x.tok.txt ++ bs y.tok.txt).data.toList = x.tok.txt ++ y.tok.txt := by simp [bs_l]
  rw [hcat] at htk
  have hsz1 := bs_size x.tok.txt
  have hsz2 := bs_size y.tok.txt
  have hcz : (bs x.tok.txt).size + (bs y.tok.txt).size ≤ 9223372036854775807 := by omega
  have hlk := fun (u : Lex.Tok) (t : Tz) => (show Sim Tryz.prog I 29 [.ag [i64 u.kind, i64 u.n, str (bs u.s), i64 (u.b : Int), i64 (u.e : Int)], .ag [i64 t.kd, i64 t.n, str t.s, i64 t.b, i64 t.e]] [] (fun o τ => o = .ret (boo (likeB u t.tok)) ∧ τ = []) from sim_Like I (tzOf u) t)
  rcases hr : Lex.tokensL (x.tok.txt ++ y.tok.txt) with ⟨ts, p, e⟩
  rw [hr] at htk
  unfold toksV at htk
  dsimp only at htk
  have hml : (ts.map etk).length = ts.length := List.length_map ..
  unfold apartR
  rw [ez_cells] at hrx hry htx hty
  rw [ez_cells x, ez_cells y]
  refine sim_body Tryz.func36 rfl rfl rfl ?_
  cases hbx : rightB x.tok with
  | false =>
    rw [hbx] at hrx
    repeat (any_goals (first | refine s_at ?_ | refine s_skip ?_ | refine s_off ?_ | refine s_offn ?_ | refine s_move ?_ | refine s_assign ?_ | refine s_load ?_ | refine s_loade ?_ | refine s_loadd ?_ | refine s_pick1 ?_ | refine s_pick0 ?_ | refine s_pure ?_ | refine s_nil ?_ | refine aw_seq ?_ | refine aw_seqr ?_ | refine aw_block ?_ | refine aw_true ?_ | refine aw_false ?_ | refine s_alloc (fun _ => ?_) | refine s_allocd (fun _ => ?_) | refine s_box (fun _ => ?_) | refine s_box1 (fun _ => ?_) | refine s_store' ?_ | (refine s_cmp (fun h => ?_) (fun h => ?_) <;> try (exfalso; omega)) | refine s_call0 hrx ?_ | refine s_call0 hry ?_))
    refine aw_ret ?_; (repeat (first | refine then_ret ?_ | refine inb_ret ?_))
    refine post_of ⟨?_, rfl⟩ (by (repeat' (first | exact ResVs.nil | apply ResVs.cons | (apply ResV.tmp; first | exact (rfl : _ = AV.sc _) | exact (rfl : _ = AV.ag _) | exact (rfl : _ = AV.sl _ _) | exact (rfl : _ = AV.os _ _ _) | exact (rfl : _ = AV.fn _ _ _)) | (apply ResV.cells; rfl; apply Pick.mem; (repeat (first | exact Pick.here _ | apply Pick.there)); rfl; rfl; rfl; (first | rfl | simp only [ones, List.all_cons, List.all_nil, Bool.and_true, one_int, one_bool, one_str, one_ptr, one_slice, one_sl, one_os, *])) | (apply ResV.cell; rfl; apply Pick.mem; (repeat (first | exact Pick.here _ | apply Pick.there)); rfl; rfl; rfl)))) (by (repeat (first | exact Picks.nil _ | (apply Picks.cons; focus ((repeat (first | exact Pick.here _ | apply Pick.there)); (first | done | fail))))))
    rfl
  | true =>
    rw [hbx] at hrx
    cases hby : rightB y.tok with
    | false =>
      rw [hby] at hry
      repeat (any_goals (first | refine s_at ?_ | refine s_skip ?_ | refine s_off ?_ | refine s_offn ?_ | refine s_move ?_ | refine s_assign ?_ | refine s_load ?_ | refine s_loade ?_ | refine s_loadd ?_ | refine s_pick1 ?_ | refine s_pick0 ?_ | refine s_pure ?_ | refine s_nil ?_ | refine aw_seq ?_ | refine aw_seqr ?_ | refine aw_block ?_ | refine aw_true ?_ | refine aw_false ?_ | refine s_alloc (fun _ => ?_) | refine s_allocd (fun _ => ?_) | refine s_box (fun _ => ?_) | refine s_box1 (fun _ => ?_) | refine s_store' ?_ | (refine s_cmp (fun h => ?_) (fun h => ?_) <;> try (exfalso; omega)) | refine s_call0 hrx ?_ | refine s_call0 hry ?_))
      refine aw_ret ?_; (repeat (first | refine then_ret ?_ | refine inb_ret ?_))
      refine post_of ⟨?_, rfl⟩ (by (repeat' (first | exact ResVs.nil | apply ResVs.cons | (apply ResV.tmp; first | exact (rfl : _ = AV.sc _) | exact (rfl : _ = AV.ag _) | exact (rfl : _ = AV.sl _ _) | exact (rfl : _ = AV.os _ _ _) | exact (rfl : _ = AV.fn _ _ _)) | (apply ResV.cells; rfl; apply Pick.mem; (repeat (first | exact Pick.here _ | apply Pick.there)); rfl; rfl; rfl; (first | rfl | simp only [ones, List.all_cons, List.all_nil, Bool.and_true, one_int, one_bool, one_str, one_ptr, one_slice, one_sl, one_os, *])) | (apply ResV.cell; rfl; apply Pick.mem; (repeat (first | exact Pick.here _ | apply Pick.there)); rfl; rfl; rfl)))) (by (repeat (first | exact Picks.nil _ | (apply Picks.cons; focus ((repeat (first | exact Pick.here _ | apply Pick.there)); (first | done | fail))))))
      rfl
    | true =>
      rw [hby] at hry
      have htwo := Lex.two_apart (rightB_iff.1 hbx) (rightB_iff.1 hby) hll
      rw [show (true && true) = true from rfl, if_pos rfl]
      by_cases hyes : e = 0 ∧ ts.length = 2
      · obtain ⟨rfl, hl2⟩ := hyes
        obtain ⟨u, v, rfl⟩ : ∃ u v, ts = [u, v] := by
          match ts, hl2 with
          | [u, v], _ => exact ⟨u, v, rfl⟩
        have h2 : ([u, v].map etk)[0]? = some (.ag [i64 u.kind, i64 u.n, str (bs u.s), i64 (u.b : Int), i64 (u.e : Int)]) := rfl
        have h3 : ([u, v].map etk)[1]? = some (.ag [i64 v.kind, i64 v.n, str (bs v.s), i64 (v.b : Int), i64 (v.e : Int)]) := rfl
        have hk1 := hlk u x
        have hk2 := hlk v y
        have hpe := Lex.tokens_done hr
        have hiff : apartB x.tok y.tok = (likeB u x.tok && likeB v y.tok) := by
          rw [Bool.eq_iff_iff, apartB_iff, ← htwo, Bool.and_eq_true, likeB_iff, likeB_iff]
          refine ⟨fun ⟨u', v', h1, h2, h3⟩ => ?_, fun ⟨h1, h2⟩ => ⟨u, v, ?_, h1, h2⟩⟩
          · rw [hr] at h1
            injection h1 with h1 _
            injection h1 with h1 h1'
            injection h1' with h1' _
            subst h1; subst h1'
            exact ⟨h2, h3⟩
          · rw [hr]
            obtain ⟨rfl, _⟩ := hpe
            rfl
        rw [hiff]
        cases hb1 : likeB u x.tok with
        | false =>
          rw [hb1] at hk1
          repeat (any_goals (first | refine s_at ?_ | refine s_skip ?_ | refine s_off ?_ | refine s_offn ?_ | refine s_move ?_ | refine s_assign ?_ | refine s_load ?_ | refine s_loade ?_ | refine s_loadd ?_ | refine s_pick1 ?_ | refine s_pick0 ?_ | refine s_pure ?_ | refine s_nil ?_ | refine aw_seq ?_ | refine aw_seqr ?_ | refine aw_block ?_ | refine aw_true ?_ | refine aw_false ?_ | refine s_alloc (fun _ => ?_) | refine s_allocd (fun _ => ?_) | refine s_box (fun _ => ?_) | refine s_box1 (fun _ => ?_) | refine s_store' ?_ | (refine s_cmp (fun h => ?_) (fun h => ?_) <;> try (exfalso; omega)) | refine s_call0 hrx ?_ | refine s_call0 hry ?_ | refine s_call0 htx ?_ | refine s_call0 hty ?_ | refine s_call0 htk ?_ | refine s_call0 hk1 ?_ | refine s_call0 hk2 ?_ | refine s_elem 0 h2 ?_ | refine s_elem 1 h3 ?_ | refine s_draw [] ?_ | refine s_concat hcz ?_))
          refine aw_ret ?_; (repeat (first | refine then_ret ?_ | refine inb_ret ?_))
          refine post_of ⟨?_, rfl⟩ (by (repeat' (first | exact ResVs.nil | apply ResVs.cons | (apply ResV.tmp; first | exact (rfl : _ = AV.sc _) | exact (rfl : _ = AV.ag _) | exact (rfl : _ = AV.sl _ _) | exact (rfl : _ = AV.os _ _ _) | exact (rfl : _ = AV.fn _ _ _)) | (apply ResV.cells; rfl; apply Pick.mem; (repeat (first | exact Pick.here _ | apply Pick.there)); rfl; rfl; rfl; (first | rfl | simp only [ones, List.all_cons, List.all_nil, Bool.and_true, one_int, one_bool, one_str, one_ptr, one_slice, one_sl, one_os, *])) | (apply ResV.cell; rfl; apply Pick.mem; (repeat (first | exact Pick.here _ | apply Pick.there)); rfl; rfl; rfl)))) (by (repeat (first | exact Picks.nil _ | (apply Picks.cons; focus ((repeat (first | exact Pick.here _ | apply Pick.there)); (first | done | fail))))))
          rfl
        | true =>
          rw [hb1] at hk1
          repeat (any_goals (first | refine s_at ?_ | refine s_skip ?_ | refine s_off ?_ | refine s_offn ?_ | refine s_move ?_ | refine s_assign ?_ | refine s_load ?_ | refine s_loade ?_ | refine s_loadd ?_ | refine s_pick1 ?_ | refine s_pick0 ?_ | refine s_pure ?_ | refine s_nil ?_ | refine aw_seq ?_ | refine aw_seqr ?_ | refine aw_block ?_ | refine aw_true ?_ | refine aw_false ?_ | refine s_alloc (fun _ => ?_) | refine s_allocd (fun _ => ?_) | refine s_box (fun _ => ?_) | refine s_box1 (fun _ => ?_) | refine s_store' ?_ | (refine s_cmp (fun h => ?_) (fun h => ?_) <;> try (exfalso; omega)) | refine s_call0 hrx ?_ | refine s_call0 hry ?_ | refine s_call0 htx ?_ | refine s_call0 hty ?_ | refine s_call0 htk ?_ | refine s_call0 hk1 ?_ | refine s_call0 hk2 ?_ | refine s_elem 0 h2 ?_ | refine s_elem 1 h3 ?_ | refine s_draw [] ?_ | refine s_concat hcz ?_))
          refine aw_ret ?_; (repeat (first | refine then_ret ?_ | refine inb_ret ?_))
          refine post_of ⟨?_, rfl⟩ (by (repeat' (first | exact ResVs.nil | apply ResVs.cons | (apply ResV.tmp; first | exact (rfl : _ = AV.sc _) | exact (rfl : _ = AV.ag _) | exact (rfl : _ = AV.sl _ _) | exact (rfl : _ = AV.os _ _ _) | exact (rfl : _ = AV.fn _ _ _)) | (apply ResV.cells; rfl; apply Pick.mem; (repeat (first | exact Pick.here _ | apply Pick.there)); rfl; rfl; rfl; (first | rfl | simp only [ones, List.all_cons, List.all_nil, Bool.and_true, one_int, one_bool, one_str, one_ptr, one_slice, one_sl, one_os, *])) | (apply ResV.cell; rfl; apply Pick.mem; (repeat (first | exact Pick.here _ | apply Pick.there)); rfl; rfl; rfl)))) (by (repeat (first | exact Picks.nil _ | (apply Picks.cons; focus ((repeat (first | exact Pick.here _ | apply Pick.there)); (first | done | fail))))))
          rfl
      · have hno : apartB x.tok y.tok = false := by
          cases hb : apartB x.tok y.tok with
          | false => rfl
          | true =>
            obtain ⟨u', v', h1, _⟩ := htwo.2 (apartB_iff.1 hb)
            rw [hr] at h1
            injection h1 with h1 h2
            injection h2 with h2 h3
            exact absurd ⟨h3, by rw [h1]; rfl⟩ hyes
        rw [hno]
        repeat (any_goals (first | refine s_at ?_ | refine s_skip ?_ | refine s_off ?_ | refine s_offn ?_ | refine s_move ?_ | refine s_assign ?_ | refine s_load ?_ | refine s_loade ?_ | refine s_loadd ?_ | refine s_pick1 ?_ | refine s_pick0 ?_ | refine s_pure ?_ | refine s_nil ?_ | refine aw_seq ?_ | refine aw_seqr ?_ | refine aw_block ?_ | refine aw_true ?_ | refine aw_false ?_ | refine s_alloc (fun _ => ?_) | refine s_allocd (fun _ => ?_) | refine s_box (fun _ => ?_) | refine s_box1 (fun _ => ?_) | refine s_store' ?_ | (refine s_cmp (fun h => ?_) (fun h => ?_) <;> try (exfalso; omega)) | refine s_call0 hrx ?_ | refine s_call0 hry ?_ | refine s_call0 htx ?_ | refine s_call0 hty ?_ | refine s_call0 htk ?_ | refine s_draw [] ?_ | refine s_concat hcz ?_))
        all_goals
          refine aw_ret ?_; (repeat (first | refine then_ret ?_ | refine inb_ret ?_))
          refine post_of ⟨?_, rfl⟩ (by (repeat' (first | exact ResVs.nil | apply ResVs.cons | (apply ResV.tmp; first | exact (rfl : _ = AV.sc _) | exact (rfl : _ = AV.ag _) | exact (rfl : _ = AV.sl _ _) | exact (rfl : _ = AV.os _ _ _) | exact (rfl : _ = AV.fn _ _ _)) | (apply ResV.cells; rfl; apply Pick.mem; (repeat (first | exact Pick.here _ | apply Pick.there)); rfl; rfl; rfl; (first | rfl | simp only [ones, List.all_cons, List.all_nil, Bool.and_true, one_int, one_bool, one_str, one_ptr, one_slice, one_sl, one_os, *])) | (apply ResV.cell; rfl; apply Pick.mem; (repeat (first | exact Pick.here _ | apply Pick.there)); rfl; rfl; rfl)))) (by (repeat (first | exact Picks.nil _ | (apply Picks.cons; focus ((repeat (first | exact Pick.here _ | apply Pick.there)); (first | done | fail))))))
          rfl
end
end Go.Proofs.YtglgppkjgodlkaaGreatDoor.J
