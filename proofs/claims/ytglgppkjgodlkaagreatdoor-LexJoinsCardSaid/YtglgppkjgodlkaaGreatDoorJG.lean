/- The reference of package lex, walked over deep values: all tokens. Conditions: none. -/
import Derived.Test.YtglgppkjgodlkaaGreatDoorJF
namespace Go.Proofs.YtglgppkjgodlkaaGreatDoor.J
open Go.Dp Rl
set_option linter.unusedVariables false
set_option linter.unusedSimpArgs false
section
variable (I : World → Prop)
theorem sim_One (a : ByteArray) (ha : Small a) (p : Nat) {c : UInt8} {r : Lex.Bytes} (hl : a.data.toList.drop p = c :: r) (hb : Lex.isBlank c = false) (hbeg : Lex.begComment (c :: r) = false) :
    Sim Tryz.prog I 47 [str a, i64 (p : Int)] [] (fun o τ => OnePost p (Lex.step (c :: r)) o ∧ τ = []) := by
  have hp : p < a.size := by
    rcases Nat.lt_or_ge p a.size with h | h
    · exact h
    · rw [drop_end h] at hl; cases hl
  have hx : a.data.toList[p]? = some c := by
    obtain ⟨y, hy, hd⟩ := drop_at hp
    rw [hl] at hd
    injection hd with e _
    rw [e]; exact hy
  obtain ⟨f1, f2, f3, f4, f5⟩ := cls_facts c hb
  obtain ⟨s1, s2, s3, s4, s5⟩ := step_by c r
  cases h1 : Lex.isLetter c with
  | true => rw [s1 (f1 h1)]; exact one_word I a ha p hx hl hp h1
  | false =>
    cases h2 : Lex.isDigit c with
    | true => rw [s2 (f2 h1 h2)]; exact one_number I a ha p hx hl hp h1 h2
    | false =>
      have bad : Lex.signPick (c :: r) [] Lex.signsL = [] → Lex.isSym c = false → Sim Tryz.prog I 47 [str a, i64 (p : Int)] [] (fun o τ => OnePost p .bad o ∧ τ = []) := by
        intro hs h3
        refine (one_syms I a ha p hx hl hp h1 h2 hs).mono ?_
        rintro o τ ⟨rfl, rfl⟩
        rw [List.takeWhile_cons, if_neg (by rw [h3]; simp)]
        exact ⟨⟨_, _, _, _, _, rfl⟩, rfl⟩
      cases h3 : Lex.isSym c with
      | true =>
        have hcl := f3 h1 h2 h3
        rw [s3 hcl]
        refine (one_syms I a ha p hx hl hp h1 h2 (Lex.pick_none c r (by omega))).mono ?_
        rintro o τ ⟨rfl, rfl⟩
        refine ⟨?_, rfl⟩
        have hpos := Lex.takeWhile_pos Lex.isSym c r h3
        unfold symTok Lex.symStep
        simp only
        generalize (c :: r).takeWhile Lex.isSym = w at *
        by_cases h32 : w.length > 32
        · rw [if_pos h32, show decide (0 < w.length ∧ w.length ≤ 32) = false from decide_eq_false (fun h => by omega)]
          exact ⟨_, _, _, _, _, rfl⟩
        · rw [if_neg h32, show decide (0 < w.length ∧ w.length ≤ 32) = true from decide_eq_true ⟨by omega, by omega⟩]
          rfl
      | false =>
        cases h4 : Lex.isMark c with
        | false =>
          have hcl := f5 h1 h2 h3 h4
          rw [s5 hcl]
          exact bad (Lex.pick_none c r (by omega)) h3
        | true =>
          have hcl := f4 h1 h2 h3 h4
          have hpm := Lex.pick_mark c r hcl
          rw [s4 hcl]
          unfold Lex.markStep
          rw [hbeg, if_neg (by simp)]
          cases hk : Lex.markLen (c :: r) with
          | none =>
            rw [hk] at hpm
            exact bad hpm h3
          | some k =>
            rw [hk] at hpm
            simp only at hpm ⊢
            have hkb := Lex.markLen_bounds _ _ hk
            have hlk : ((c :: r).take k).length = k := by rw [List.length_take]; omega
            refine (one_sign I a ha p hx hl hp h1 h2 hpm (fun e => by rw [e] at hlk; simp at hlk; omega) (by omega)).mono ?_
            rintro o τ ⟨rfl, rfl⟩
            rw [hlk]
            exact ⟨rfl, rfl⟩
theorem step_real {c : UInt8} {r : Lex.Bytes} (hb : Lex.isBlank c = false) (hbeg : Lex.begComment (c :: r) = false) : Lex.step (c :: r) ≠ .skip ∧ ∀ k, Lex.step (c :: r) ≠ .comm k := by
  obtain ⟨f1, f2, f3, f4, f5⟩ := cls_facts c hb
  obtain ⟨s1, s2, s3, s4, s5⟩ := step_by c r
  cases h1 : Lex.isLetter c with
  | true => rw [s1 (f1 h1)]; unfold Lex.wordStep; simp only; split <;> simp
  | false =>
    cases h2 : Lex.isDigit c with
    | true => rw [s2 (f2 h1 h2)]; unfold Lex.numStep; simp only; split; (· simp); (· split <;> simp)
    | false =>
      cases h3 : Lex.isSym c with
      | true => rw [s3 (f3 h1 h2 h3)]; unfold Lex.symStep; simp only; split <;> simp
      | false =>
        cases h4 : Lex.isMark c with
        | false => rw [s5 (f5 h1 h2 h3 h4)]; simp
        | true => rw [s4 (f4 h1 h2 h3 h4)]; unfold Lex.markStep; rw [hbeg, if_neg (by simp)]; split <;> simp
theorem toks_done {l : Lex.Bytes} (hl : l.length ≤ 100000) {ts : List Lex.Tok} {cs : List (Nat × Nat)} (h : Lex.cutL l = .done ts cs) : Lex.tokensL l = if ts.length > 20000 then ([], 0, 2) else (ts, 0, 0) := by
  unfold Lex.tokensL
  rw [if_neg (by omega), h]
theorem toks_err {l : Lex.Bytes} (hl : l.length ≤ 100000) {q : Nat} (h : Lex.cutL l = .err q) : Lex.tokensL l = ([], q, 10) := by
  unfold Lex.tokensL
  rw [if_neg (by omega), h]
/-- What Tokens returns. -/
def toksV (r : List Lex.Tok × Nat × Nat) : AV := .tu [.sl 5 (r.1.map etk), i64 (r.2.1 : Int), i64 (r.2.2 : Int)]
set_option maxRecDepth 20000 in set_option maxHeartbeats 4000000 in
theorem sim_rtokens (a : ByteArray) (ha : Small a) : Sim Tryz.prog I 14 [str a] [] (fun o τ => o = .ret (toksV (Lex.tokensL a.data.toList)) ∧ τ = []) := by
  have ha' : a.size ≤ 140737488351232 := ha
  have hll := size_l a
  refine sim_body' Tryz.func14 rfl rfl rfl ?_
  by_cases hbig : 100000 < a.size
  · have ht : Lex.tokensL a.data.toList = ([], 0, 2) := by unfold Lex.tokensL; rw [if_pos (by omega)]
    rw [ht]
    repeat (any_goals (first | refine s_at ?_ | refine s_skip ?_ | refine s_off ?_ | refine s_offn ?_ | refine s_move ?_ | refine s_assign ?_ | refine s_load ?_ | refine s_loade ?_ | refine s_loadd ?_ | refine s_pick1 ?_ | refine s_pick0 ?_ | refine s_pure ?_ | refine s_nil ?_ | refine aw_seq ?_ | refine aw_seqr ?_ | refine aw_block ?_ | refine aw_true ?_ | refine aw_false ?_ | refine s_alloc (fun _ => ?_) | refine s_allocd (fun _ => ?_) | refine s_box (fun _ => ?_) | refine s_box1 (fun _ => ?_) | refine s_store' ?_ | (refine s_cmp (fun h => ?_) (fun h => ?_) <;> try (exfalso; omega))))
    refine aw_ret ?_; (repeat (first | refine then_ret ?_ | refine inb_ret ?_))
    refine post_of ⟨_, .ret _ _ ?_, rfl, rfl⟩ (by (repeat' (first | exact ResVs.nil | apply ResVs.cons | (apply ResV.tmp; first | exact (rfl : _ = AV.sc _) | exact (rfl : _ = AV.ag _) | exact (rfl : _ = AV.sl _ _) | exact (rfl : _ = AV.os _ _ _) | exact (rfl : _ = AV.fn _ _ _)) | (apply ResV.cells; rfl; apply Pick.mem; (repeat (first | exact Pick.here _ | apply Pick.there)); rfl; rfl; rfl; (first | rfl | simp only [ones, List.all_cons, List.all_nil, Bool.and_true, one_int, one_bool, one_str, one_ptr, one_slice, one_sl, one_os, *])) | (apply ResV.cell; rfl; apply Pick.mem; (repeat (first | exact Pick.here _ | apply Pick.there)); rfl; rfl; rfl)))) (by (repeat (first | exact Picks.nil _ | (apply Picks.cons; focus ((repeat (first | exact Pick.here _ | apply Pick.there)); (first | done | fail))))))
    exact .tu _ _ (.cons _ _ _ _ (.nil 5) (Subs.refl _))
  · repeat (any_goals (first | refine s_at ?_ | refine s_skip ?_ | refine s_off ?_ | refine s_offn ?_ | refine s_move ?_ | refine s_assign ?_ | refine s_load ?_ | refine s_loade ?_ | refine s_loadd ?_ | refine s_pick1 ?_ | refine s_pick0 ?_ | refine s_pure ?_ | refine s_nil ?_ | refine aw_seq ?_ | refine aw_seqr ?_ | refine aw_block ?_ | refine aw_true ?_ | refine aw_false ?_ | refine s_alloc (fun _ => ?_) | refine s_allocd (fun _ => ?_) | refine s_box (fun _ => ?_) | refine s_box1 (fun _ => ?_) | refine s_store' ?_ | (refine s_cmp (fun h => ?_) (fun h => ?_) <;> try (exfalso; omega)) | refine s_lit0 (fun _ => ?_)))
    rename_i kk
    refine aw_loop (fun s : Nat × List Lex.Tok => [(0, str a), (5, .os kk 5 (s.2.map etk)), (6, i64 (s.1 : Int))]) (fun s => [.tok kk 38 5 (s.2.map etk).length])
      (fun s => s.1 ≤ a.size ∧ s.2.length ≤ s.1 ∧ ∃ cs, Lex.Runs a.data.toList 0 s.2 cs (a.data.toList.drop s.1) s.1) (fun s => a.size - s.1) (0, []) ⟨Nat.zero_le _, Nat.zero_le _, [], .nil _ _⟩ (EnvLe.of_list (by intro x hx; simp only [List.mem_cons, List.not_mem_nil, or_false] at hx; (repeat (rcases hx with rfl | hx; (focus rfl))); (try (subst hx; rfl)))) [] (List.Perm.refl _) ?_
    rintro ⟨i, ts⟩ ⟨i1, i2, cs, i3⟩
    dsimp only at i1 i2 i3 ⊢
    have hmap : (ts.map etk).length = ts.length := List.length_map ..
    have hskip := sim_Skip I a ha i i1
    repeat (any_goals (first | refine s_at ?_ | refine s_skip ?_ | refine s_off ?_ | refine s_offn ?_ | refine s_move ?_ | refine s_assign ?_ | refine s_load ?_ | refine s_loade ?_ | refine s_loadd ?_ | refine s_pick1 ?_ | refine s_pick0 ?_ | refine s_pure ?_ | refine s_nil ?_ | refine aw_seq ?_ | refine aw_seqr ?_ | refine aw_block ?_ | refine aw_true ?_ | refine aw_false ?_ | refine s_alloc (fun _ => ?_) | refine s_allocd (fun _ => ?_) | refine s_box (fun _ => ?_) | refine s_box1 (fun _ => ?_) | refine s_store' ?_ | (refine s_call hskip (fun x τ' h => ?_) (fun c τ' h => by obtain ⟨⟨_, _, h0, _⟩, _⟩ := h; cases h0); obtain ⟨⟨j, fine, h1, hS⟩, rfl⟩ := h; cases h1) | (exfalso; assumption)))
    obtain ⟨k1, k2, ⟨cs2, k3⟩, k4, k5⟩ := hS
    have hrun := i3.trans k3
    rw [List.append_nil] at hrun
    cases fine with
    | false =>
      obtain ⟨k6, k7⟩ := k5 rfl
      have ht := toks_err (by omega) (Lex.cut_of_err hrun k6 k7)
      rw [ht]
      repeat (any_goals (first | refine s_at ?_ | refine s_skip ?_ | refine s_off ?_ | refine s_offn ?_ | refine s_move ?_ | refine s_assign ?_ | refine s_load ?_ | refine s_loade ?_ | refine s_loadd ?_ | refine s_pick1 ?_ | refine s_pick0 ?_ | refine s_pure ?_ | refine s_nil ?_ | refine aw_seq ?_ | refine aw_seqr ?_ | refine aw_block ?_ | refine aw_true ?_ | refine aw_false ?_ | refine s_alloc (fun _ => ?_) | refine s_allocd (fun _ => ?_) | refine s_box (fun _ => ?_) | refine s_box1 (fun _ => ?_) | refine s_store' ?_))
      refine aw_ret ?_; (repeat (first | refine then_ret ?_ | refine inb_ret ?_))
      refine post_of ⟨_, .ret _ _ ?_, rfl, rfl⟩ (by (repeat' (first | exact ResVs.nil | apply ResVs.cons | (apply ResV.tmp; first | exact (rfl : _ = AV.sc _) | exact (rfl : _ = AV.ag _) | exact (rfl : _ = AV.sl _ _) | exact (rfl : _ = AV.os _ _ _) | exact (rfl : _ = AV.fn _ _ _)) | (apply ResV.cells; rfl; apply Pick.mem; (repeat (first | exact Pick.here _ | apply Pick.there)); rfl; rfl; rfl; (first | rfl | simp only [ones, List.all_cons, List.all_nil, Bool.and_true, one_int, one_bool, one_str, one_ptr, one_slice, one_sl, one_os, *])) | (apply ResV.cell; rfl; apply Pick.mem; (repeat (first | exact Pick.here _ | apply Pick.there)); rfl; rfl; rfl)))) (by (repeat (first | exact Picks.nil _ | (apply Picks.cons; focus ((repeat (first | exact Pick.here _ | apply Pick.there)); (first | done | fail))))))
      exact .tu _ _ (.cons _ _ _ _ (.nil 5) (Subs.refl _))
    | true =>
      by_cases hj : j = a.size
      · have hd := drop_end (a := a) (i := j) (by omega)
        rw [hd] at hrun
        have ht := toks_done (by omega) (Lex.cut_of_done hrun)
        rw [ht]
        repeat (any_goals (first | refine s_at ?_ | refine s_skip ?_ | refine s_off ?_ | refine s_offn ?_ | refine s_move ?_ | refine s_assign ?_ | refine s_load ?_ | refine s_loade ?_ | refine s_loadd ?_ | refine s_pick1 ?_ | refine s_pick0 ?_ | refine s_pure ?_ | refine s_nil ?_ | refine aw_seq ?_ | refine aw_seqr ?_ | refine aw_block ?_ | refine aw_true ?_ | refine aw_false ?_ | refine s_alloc (fun _ => ?_) | refine s_allocd (fun _ => ?_) | refine s_box (fun _ => ?_) | refine s_box1 (fun _ => ?_) | refine s_store' ?_ | (refine s_cmp (fun h => ?_) (fun h => ?_) <;> try (exfalso; omega))))
        refine aw_exit ?_
        repeat (first | refine then_exit ?_ | refine inb_out (by decide) ?_ | refine inb_exit ?_)
        refine then_nor ?_
        by_cases hm : ts.length > 20000
        · rw [if_pos hm]
          repeat (any_goals (first | refine s_at ?_ | refine s_skip ?_ | refine s_off ?_ | refine s_offn ?_ | refine s_move ?_ | refine s_assign ?_ | refine s_load ?_ | refine s_loade ?_ | refine s_loadd ?_ | refine s_pick1 ?_ | refine s_pick0 ?_ | refine s_pure ?_ | refine s_nil ?_ | refine aw_seq ?_ | refine aw_seqr ?_ | refine aw_block ?_ | refine aw_true ?_ | refine aw_false ?_ | refine s_alloc (fun _ => ?_) | refine s_allocd (fun _ => ?_) | refine s_box (fun _ => ?_) | refine s_box1 (fun _ => ?_) | refine s_store' ?_ | (refine s_cmp (fun h => ?_) (fun h => ?_) <;> try (exfalso; omega))))
          refine aw_ret ?_; (repeat (first | refine then_ret ?_ | refine inb_ret ?_))
          refine post_of ⟨_, .ret _ _ ?_, rfl, rfl⟩ (by (repeat' (first | exact ResVs.nil | apply ResVs.cons | (apply ResV.tmp; first | exact (rfl : _ = AV.sc _) | exact (rfl : _ = AV.ag _) | exact (rfl : _ = AV.sl _ _) | exact (rfl : _ = AV.os _ _ _) | exact (rfl : _ = AV.fn _ _ _)) | (apply ResV.cells; rfl; apply Pick.mem; (repeat (first | exact Pick.here _ | apply Pick.there)); rfl; rfl; rfl; (first | rfl | simp only [ones, List.all_cons, List.all_nil, Bool.and_true, one_int, one_bool, one_str, one_ptr, one_slice, one_sl, one_os, *])) | (apply ResV.cell; rfl; apply Pick.mem; (repeat (first | exact Pick.here _ | apply Pick.there)); rfl; rfl; rfl)))) (by (repeat (first | exact Picks.nil _ | (apply Picks.cons; focus ((repeat (first | exact Pick.here _ | apply Pick.there)); (first | done | fail))))))
          exact .tu _ _ (.cons _ _ _ _ (.nil 5) (Subs.refl _))
        · rw [if_neg hm]
          repeat (any_goals (first | refine s_at ?_ | refine s_skip ?_ | refine s_off ?_ | refine s_offn ?_ | refine s_move ?_ | refine s_assign ?_ | refine s_load ?_ | refine s_loade ?_ | refine s_loadd ?_ | refine s_pick1 ?_ | refine s_pick0 ?_ | refine s_pure ?_ | refine s_nil ?_ | refine aw_seq ?_ | refine aw_seqr ?_ | refine aw_block ?_ | refine aw_true ?_ | refine aw_false ?_ | refine s_alloc (fun _ => ?_) | refine s_allocd (fun _ => ?_) | refine s_box (fun _ => ?_) | refine s_box1 (fun _ => ?_) | refine s_store' ?_ | (refine s_cmp (fun h => ?_) (fun h => ?_) <;> try (exfalso; omega))))
          refine aw_ret ?_; (repeat (first | refine then_ret ?_ | refine inb_ret ?_))
          refine post_of ⟨_, .ret _ _ ?_, rfl, rfl⟩ (by (repeat' (first | exact ResVs.nil | apply ResVs.cons | (apply ResV.tmp; first | exact (rfl : _ = AV.sc _) | exact (rfl : _ = AV.ag _) | exact (rfl : _ = AV.sl _ _) | exact (rfl : _ = AV.os _ _ _) | exact (rfl : _ = AV.fn _ _ _)) | (apply ResV.cells; rfl; apply Pick.mem; (repeat (first | exact Pick.here _ | apply Pick.there)); rfl; rfl; rfl; (first | rfl | simp only [ones, List.all_cons, List.all_nil, Bool.and_true, one_int, one_bool, one_str, one_ptr, one_slice, one_sl, one_os, *])) | (apply ResV.cell; rfl; apply Pick.mem; (repeat (first | exact Pick.here _ | apply Pick.there)); rfl; rfl; rfl)))) (by (repeat (first | exact Picks.nil _ | (apply Picks.cons; focus ((repeat (first | exact Pick.here _ | apply Pick.there)); (first | done | fail))))))
          exact .tu _ _ (.cons _ _ _ _ (.os _ _ _ _ (Subs.refl _)) (Subs.refl _))
      · rcases k4 rfl with hd | ⟨c, r, hd, hb, hbeg⟩
        · exact absurd (by have := congrArg List.length hd; rw [List.length_drop, size_l] at this; simp at this; omega) hj
        · have ho := sim_One I a ha j hd hb hbeg
          rw [hd] at hrun
          cases hs : Lex.step (c :: r) with
          | skip => exact absurd hs (step_real hb hbeg).1
          | comm k => exact absurd hs ((step_real hb hbeg).2 k)
          | bad =>
            have ht := toks_err (by omega) (Lex.cut_of_err hrun (by simp) hs)
            rw [ht]
            rw [hs] at ho
            unfold OnePost at ho
            repeat (any_goals (first | refine s_at ?_ | refine s_skip ?_ | refine s_off ?_ | refine s_offn ?_ | refine s_move ?_ | refine s_assign ?_ | refine s_load ?_ | refine s_loade ?_ | refine s_loadd ?_ | refine s_pick1 ?_ | refine s_pick0 ?_ | refine s_pure ?_ | refine s_nil ?_ | refine aw_seq ?_ | refine aw_seqr ?_ | refine aw_block ?_ | refine aw_true ?_ | refine aw_false ?_ | refine s_alloc (fun _ => ?_) | refine s_allocd (fun _ => ?_) | refine s_box (fun _ => ?_) | refine s_box1 (fun _ => ?_) | refine s_store' ?_ | (refine s_cmp (fun h => ?_) (fun h => ?_) <;> try (exfalso; omega)) | (refine s_call ho (fun x τ' h => ?_) (fun c τ' h => by obtain ⟨⟨_, _, _, _, _, h0⟩, _⟩ := h; cases h0); obtain ⟨⟨q1, q2, q3, q4, q5, h1⟩, rfl⟩ := h; cases h1)))
            refine aw_ret ?_; (repeat (first | refine then_ret ?_ | refine inb_ret ?_))
            refine post_of ⟨_, .ret _ _ ?_, rfl, rfl⟩ (by (repeat' (first | exact ResVs.nil | apply ResVs.cons | (apply ResV.tmp; first | exact (rfl : _ = AV.sc _) | exact (rfl : _ = AV.ag _) | exact (rfl : _ = AV.sl _ _) | exact (rfl : _ = AV.os _ _ _) | exact (rfl : _ = AV.fn _ _ _)) | (apply ResV.cells; rfl; apply Pick.mem; (repeat (first | exact Pick.here _ | apply Pick.there)); rfl; rfl; rfl; (first | rfl | simp only [ones, List.all_cons, List.all_nil, Bool.and_true, one_int, one_bool, one_str, one_ptr, one_slice, one_sl, one_os, *])) | (apply ResV.cell; rfl; apply Pick.mem; (repeat (first | exact Pick.here _ | apply Pick.there)); rfl; rfl; rfl)))) (by (repeat (first | exact Picks.nil _ | (apply Picks.cons; focus ((repeat (first | exact Pick.here _ | apply Pick.there)); (first | done | fail))))))
            exact .tu _ _ (.cons _ _ _ _ (.nil 5) (Subs.refl _))
          | tok kd n b k =>
            have hk := Lex.step_tok hs
            have hcl : (c :: r).length = a.size - j := by rw [← hd, List.length_drop, size_l]
            rw [hs] at ho
            unfold OnePost at ho
            simp only at ho
            have happ : ts.map etk ++ [etkB kd n (bs b) (j : Int) ((j + k : Nat) : Int)] = (ts ++ [(⟨kd, n, b, j, j + k⟩ : Lex.Tok)]).map etk := by rw [List.map_append]; rfl
            have hdk : (c :: r).drop k = a.data.toList.drop (j + k) := by rw [← hd, List.drop_drop]
            repeat (any_goals (first | refine s_at ?_ | refine s_skip ?_ | refine s_off ?_ | refine s_offn ?_ | refine s_move ?_ | refine s_assign ?_ | refine s_load ?_ | refine s_loade ?_ | refine s_loadd ?_ | refine s_pick1 ?_ | refine s_pick0 ?_ | refine s_pure ?_ | refine s_nil ?_ | refine aw_seq ?_ | refine aw_seqr ?_ | refine aw_block ?_ | refine aw_true ?_ | refine aw_false ?_ | refine s_alloc (fun _ => ?_) | refine s_allocd (fun _ => ?_) | refine s_box (fun _ => ?_) | refine s_box1 (fun _ => ?_) | refine s_store' ?_ | (refine s_cmp (fun h => ?_) (fun h => ?_) <;> try (exfalso; omega)) | refine s_call0 ho ?_ | refine s_lit (fun kk2 => ?_) | refine s_append ?_))
            rw [happ]
            refine d_end fun env' he => ?_
            (repeat (first | refine inb_nor ?_ | refine then_nor ?_))
            refine ⟨(j + k, ts ++ [⟨kd, n, b, j, j + k⟩]), _, ⟨by dsimp only; omega, by dsimp only; rw [List.length_append, List.length_cons, List.length_nil]; omega, (cs ++ cs2) ++ [], hrun.trans (.tok hs (by dsimp only; rw [hdk]; exact .nil _ _))⟩, by dsimp only; omega, EnvLe.of_eq he (EnvLe.of_list (by intro x hx; simp only [List.mem_cons, List.not_mem_nil, or_false] at hx; (repeat (rcases hx with rfl | hx; (focus rfl))); (try (subst hx; rfl)))), Picks.perm (by (repeat (first | exact Picks.nil _ | (apply Picks.cons; focus ((repeat (first | exact Pick.here _ | apply Pick.there)); (first | done | fail))))))⟩
end
end Go.Proofs.YtglgppkjgodlkaaGreatDoor.J
