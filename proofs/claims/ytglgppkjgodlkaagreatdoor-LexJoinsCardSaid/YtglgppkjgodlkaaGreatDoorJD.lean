/- The reference of package lex, walked over deep values: numbers and signs. Conditions: none. -/
import Derived.Test.YtglgppkjgodlkaaGreatDoorJC
import Derived.Test.YtglgppkjgodlkaaGreatDoorLT6
namespace Go.Proofs.YtglgppkjgodlkaaGreatDoor.J
open Go.Dp Rl
set_option linter.unusedVariables false
set_option linter.unusedSimpArgs false
/-- A token. -/
abbrev etkB (kd n : Int) (s : ByteArray) (b e : Int) : AV := .ag [i64 kd, i64 n, str s, i64 b, i64 e]
/-- What is read of digits: the number and where it ends. -/
def numR (i n : Nat) (big : Bool) (l : Lex.Bytes) : Option (Nat × Nat) :=
  let w := l.takeWhile Lex.isDigit
  if big = true ∨ digFrom n w > 2147483647 then none else if Lex.nextInName (l.drop w.length) = true then none else some (digFrom n w, i + w.length)
theorem numR_big (i n : Nat) (l : Lex.Bytes) : numR i n true l = none := by unfold numR; simp
theorem numR_digit {i n : Nat} {x : UInt8} {l : Lex.Bytes} (hx : Lex.isDigit x = true) : numR i n false (x :: l) = numR (i + 1) (10 * n + (x.toNat - 48)) (decide (10 * n + (x.toNat - 48) > 2147483647)) l := by
  unfold numR
  simp only [List.takeWhile_cons, hx, if_true, List.length_cons, List.drop_succ_cons]
  have e : digFrom n (x :: l.takeWhile Lex.isDigit) = digFrom (10 * n + (x.toNat - 48)) (l.takeWhile Lex.isDigit) := rfl
  rw [e]
  have := digFrom_le (l.takeWhile Lex.isDigit) (10 * n + (x.toNat - 48))
  by_cases h : 10 * n + (x.toNat - 48) > 2147483647
  · rw [if_pos (.inr (by omega)), if_pos (.inl (by simp; omega))]
  · by_cases h2 : digFrom (10 * n + (x.toNat - 48)) (l.takeWhile Lex.isDigit) > 2147483647
    · rw [if_pos (.inr h2), if_pos (.inr h2)]
    · have a1 : ¬ (false = true ∨ digFrom (10 * n + (x.toNat - 48)) (l.takeWhile Lex.isDigit) > 2147483647) := by rintro (h' | h'); (· cases h'); (· exact h2 h')
      have a2 : ¬ (decide (10 * n + (x.toNat - 48) > 2147483647) = true ∨ digFrom (10 * n + (x.toNat - 48)) (l.takeWhile Lex.isDigit) > 2147483647) := by rintro (h' | h'); (· exact h (of_decide_eq_true h')); (· exact h2 h')
      rw [if_neg a1, if_neg a2, show i + 1 + (l.takeWhile Lex.isDigit).length = i + ((l.takeWhile Lex.isDigit).length + 1) by omega]
theorem numR_end {i n : Nat} {x : UInt8} {l : Lex.Bytes} (hx : Lex.isDigit x = false) (hn : n ≤ 2147483647) : numR i n false (x :: l) = if Lex.inName x = true then none else some (n, i) := by
  unfold numR
  simp only [List.takeWhile_cons, hx]
  rw [if_neg (by simp [digFrom]; omega)]
  rfl
theorem numR_nil {i n : Nat} (hn : n ≤ 2147483647) : numR i n false [] = some (n, i) := by
  unfold numR
  rw [if_neg (by simp [digFrom]; omega)]
  rfl
theorem dig_byte {c : UInt8} (h : Lex.isDigit c = true) : 48 ≤ c.toNat ∧ c.toNat ≤ 57 := by
  rw [digit_nat] at h; simpa using h
theorem wrap_byte (c : UInt8) : IntKind.i64.wrap (c.toNat : Int) = (c.toNat : Int) := by revert c; exact Lex.all_bytes (by decide +kernel)
section
variable (I : World → Prop)
/-- What a number comes to. -/
def NumPost (p : Nat) (r : Option (Nat × Nat)) (o : Out) : Prop := match r with
  | some (v, e) => o = .ret (.tu [etkB 3 (v : Int) ⟨#[]⟩ (p : Int) (e : Int), boo true])
  | none => o = .ret (.tu [etkB 0 0 ⟨#[]⟩ 0 0, boo false])
set_option maxRecDepth 20000 in set_option maxHeartbeats 4000000 in
theorem sim_number (a : ByteArray) (ha : Small a) (p : Nat) (hp : p ≤ a.size) : Sim Tryz.prog I 70 [str a, i64 (p : Int)] [] (fun o τ => NumPost p (numR p 0 false (a.data.toList.drop p)) o ∧ τ = []) := by
  have ha' : a.size ≤ 140737488351232 := ha
  generalize hr : numR p 0 false (a.data.toList.drop p) = res
  refine sim_body Tryz.func70 rfl rfl rfl ?_
  repeat (any_goals (first | refine s_at ?_ | refine s_skip ?_ | refine s_off ?_ | refine s_offn ?_ | refine s_move ?_ | refine s_assign ?_ | refine s_load ?_ | refine s_loade ?_ | refine s_loadd ?_ | refine s_pick1 ?_ | refine s_pick0 ?_ | refine s_pure ?_ | refine s_nil ?_ | refine aw_seq ?_ | refine aw_seqr ?_ | refine aw_block ?_ | refine aw_true ?_ | refine aw_false ?_ | refine s_alloc (fun _ => ?_) | refine s_allocd (fun _ => ?_) | refine s_box (fun _ => ?_) | refine s_box1 (fun _ => ?_) | refine s_store' ?_))
  rename_i b4
  refine aw_loop (fun s : Nat × Nat × Bool => [(0, str a), (1, i64 (p : Int)), (4, .sc (.pointer (some ⟨b4, 0, none⟩))), (6, i64 (s.1 : Int)), (7, i64 (s.2.1 : Int)), (8, boo s.2.2)]) (fun _ => [.box b4 ty38.zl 38])
    (fun s => s.1 ≤ a.size ∧ p ≤ s.1 ∧ (s.2.2 = false → s.2.1 ≤ 2147483647) ∧ numR s.1 s.2.1 s.2.2 (a.data.toList.drop s.1) = res) (fun s => a.size - s.1) (p, 0, false) ⟨hp, Nat.le_refl _, fun _ => Nat.zero_le _, hr⟩ (EnvLe.of_list (by intro x hx; simp only [List.mem_cons, List.not_mem_nil, or_false] at hx; (repeat (rcases hx with rfl | hx; (focus rfl))); (try (subst hx; rfl)))) [] (List.Perm.refl _) ?_
  rintro ⟨i, n, big⟩ ⟨i1, i2, i3, i4⟩
  dsimp only at i1 i2 i3 i4 ⊢
  by_cases hi : i < a.size
  · obtain ⟨x, hx, hd⟩ := drop_at hi
    have hc := sim_digit I x
    have hc1 := sim_letter I x
    rw [hd] at i4
    cases hb : Lex.isDigit x with
    | true =>
      rw [hb] at hc
      have hdx := dig_byte hb
      cases big with
      | true =>
        repeat (any_goals (first | refine s_at ?_ | refine s_skip ?_ | refine s_off ?_ | refine s_offn ?_ | refine s_move ?_ | refine s_assign ?_ | refine s_load ?_ | refine s_loade ?_ | refine s_loadd ?_ | refine s_pick1 ?_ | refine s_pick0 ?_ | refine s_pure ?_ | refine s_nil ?_ | refine aw_seq ?_ | refine aw_seqr ?_ | refine aw_block ?_ | refine aw_true ?_ | refine aw_false ?_ | refine s_alloc (fun _ => ?_) | refine s_allocd (fun _ => ?_) | refine s_box (fun _ => ?_) | refine s_box1 (fun _ => ?_) | refine s_store' ?_ | (refine s_cmp (fun h => ?_) (fun h => ?_) <;> try (exfalso; omega)) | refine s_index i hx ?_ | refine s_call0 hc ?_ | refine s_add ?_))
        refine d_end fun env' he => ?_
        (repeat (first | refine inb_nor ?_ | refine then_nor ?_))
        refine ⟨(i + 1, n, true), _, ⟨by dsimp only; omega, by dsimp only; omega, (fun h => by cases h), by rw [← i4, numR_big, numR_big]⟩, by dsimp only; omega, EnvLe.of_eq he (EnvLe.of_list (by intro x hx; simp only [List.mem_cons, List.not_mem_nil, or_false] at hx; (repeat (rcases hx with rfl | hx; (focus rfl))); (try (subst hx; rfl)))), Picks.perm (by (repeat (first | exact Picks.nil _ | (apply Picks.cons; focus ((repeat (first | exact Pick.here _ | apply Pick.there)); (first | done | fail))))))⟩
      | false =>
        have hn := i3 rfl
        rw [numR_digit hb] at i4
        have hn' : (10 * (n : Int) + (x.toNat : Int) - 48) = ((10 * n + (x.toNat - 48) : Nat) : Int) := by omega
        generalize hnn : 10 * n + (x.toNat - 48) = n' at hn' i4
        by_cases hbig : n' > 2147483647
        · rw [decide_eq_true hbig] at i4
          repeat (any_goals (first | refine s_at ?_ | refine s_skip ?_ | refine s_off ?_ | refine s_offn ?_ | refine s_move ?_ | refine s_assign ?_ | refine s_load ?_ | refine s_loade ?_ | refine s_loadd ?_ | refine s_pick1 ?_ | refine s_pick0 ?_ | refine s_pure ?_ | refine s_nil ?_ | refine aw_seq ?_ | refine aw_seqr ?_ | refine aw_block ?_ | refine aw_true ?_ | refine aw_false ?_ | refine s_alloc (fun _ => ?_) | refine s_allocd (fun _ => ?_) | refine s_box (fun _ => ?_) | refine s_box1 (fun _ => ?_) | refine s_store' ?_ | (refine s_cmp (fun h => ?_) (fun h => ?_) <;> try (exfalso; omega)) | refine s_index i hx ?_ | refine s_call0 hc ?_ | refine s_mul ?_ | refine s_add ?_ | refine s_sub ?_ | refine s_conv (x.toNat : Int) ?_ (wrap_byte x)))
          rw [hn']
          refine d_end fun env' he => ?_
          (repeat (first | refine inb_nor ?_ | refine then_nor ?_))
          refine ⟨(i + 1, n', true), _, ⟨by dsimp only; omega, by dsimp only; omega, (fun h => by cases h), i4⟩, by dsimp only; omega, EnvLe.of_eq he (EnvLe.of_list (by intro x hx; simp only [List.mem_cons, List.not_mem_nil, or_false] at hx; (repeat (rcases hx with rfl | hx; (focus rfl))); (try (subst hx; rfl)))), Picks.perm (by (repeat (first | exact Picks.nil _ | (apply Picks.cons; focus ((repeat (first | exact Pick.here _ | apply Pick.there)); (first | done | fail))))))⟩
        · rw [decide_eq_false hbig] at i4
          repeat (any_goals (first | refine s_at ?_ | refine s_skip ?_ | refine s_off ?_ | refine s_offn ?_ | refine s_move ?_ | refine s_assign ?_ | refine s_load ?_ | refine s_loade ?_ | refine s_loadd ?_ | refine s_pick1 ?_ | refine s_pick0 ?_ | refine s_pure ?_ | refine s_nil ?_ | refine aw_seq ?_ | refine aw_seqr ?_ | refine aw_block ?_ | refine aw_true ?_ | refine aw_false ?_ | refine s_alloc (fun _ => ?_) | refine s_allocd (fun _ => ?_) | refine s_box (fun _ => ?_) | refine s_box1 (fun _ => ?_) | refine s_store' ?_ | (refine s_cmp (fun h => ?_) (fun h => ?_) <;> try (exfalso; omega)) | refine s_index i hx ?_ | refine s_call0 hc ?_ | refine s_mul ?_ | refine s_add ?_ | refine s_sub ?_ | refine s_conv (x.toNat : Int) ?_ (wrap_byte x)))
          rw [hn']
          refine d_end fun env' he => ?_
          (repeat (first | refine inb_nor ?_ | refine then_nor ?_))
          refine ⟨(i + 1, n', false), _, ⟨by dsimp only; omega, by dsimp only; omega, (fun _ => by dsimp only; omega), i4⟩, by dsimp only; omega, EnvLe.of_eq he (EnvLe.of_list (by intro x hx; simp only [List.mem_cons, List.not_mem_nil, or_false] at hx; (repeat (rcases hx with rfl | hx; (focus rfl))); (try (subst hx; rfl)))), Picks.perm (by (repeat (first | exact Picks.nil _ | (apply Picks.cons; focus ((repeat (first | exact Pick.here _ | apply Pick.there)); (first | done | fail))))))⟩
    | false =>
      rw [hb] at hc
      have hsp := inName_split x
      rw [hb, Bool.false_or] at hsp
      cases big with
      | true =>
        rw [numR_big] at i4
        subst i4
        repeat (any_goals (first | refine s_at ?_ | refine s_skip ?_ | refine s_off ?_ | refine s_offn ?_ | refine s_move ?_ | refine s_assign ?_ | refine s_load ?_ | refine s_loade ?_ | refine s_loadd ?_ | refine s_pick1 ?_ | refine s_pick0 ?_ | refine s_pure ?_ | refine s_nil ?_ | refine aw_seq ?_ | refine aw_seqr ?_ | refine aw_block ?_ | refine aw_true ?_ | refine aw_false ?_ | refine s_alloc (fun _ => ?_) | refine s_allocd (fun _ => ?_) | refine s_box (fun _ => ?_) | refine s_box1 (fun _ => ?_) | refine s_store' ?_ | (refine s_cmp (fun h => ?_) (fun h => ?_) <;> try (exfalso; omega)) | refine s_index i hx ?_ | refine s_call0 hc ?_))
        refine aw_exit ?_; (repeat refine then_exit ?_); refine inb_exit ?_; refine then_nor ?_
        repeat (any_goals (first | refine s_at ?_ | refine s_skip ?_ | refine s_off ?_ | refine s_offn ?_ | refine s_move ?_ | refine s_assign ?_ | refine s_load ?_ | refine s_loade ?_ | refine s_loadd ?_ | refine s_pick1 ?_ | refine s_pick0 ?_ | refine s_pure ?_ | refine s_nil ?_ | refine aw_seq ?_ | refine aw_seqr ?_ | refine aw_block ?_ | refine aw_true ?_ | refine aw_false ?_ | refine s_alloc (fun _ => ?_) | refine s_allocd (fun _ => ?_) | refine s_box (fun _ => ?_) | refine s_box1 (fun _ => ?_) | refine s_store' ?_))
        refine aw_ret ?_; (repeat (first | refine then_ret ?_ | refine inb_ret ?_))
        refine (post_of ⟨?_, rfl⟩ (by (repeat' (first | exact ResVs.nil | apply ResVs.cons | (apply ResV.tmp; first | exact (rfl : _ = AV.sc _) | exact (rfl : _ = AV.ag _) | exact (rfl : _ = AV.sl _ _) | exact (rfl : _ = AV.os _ _ _) | exact (rfl : _ = AV.fn _ _ _)) | (apply ResV.cells; rfl; apply Pick.mem; (repeat (first | exact Pick.here _ | apply Pick.there)); rfl; rfl; rfl; (first | rfl | simp only [ones, List.all_cons, List.all_nil, Bool.and_true, one_int, one_bool, one_str, one_ptr, one_slice, one_sl, one_os, *])) | (apply ResV.cell; rfl; apply Pick.mem; (repeat (first | exact Pick.here _ | apply Pick.there)); rfl; rfl; rfl)))) (by (repeat (first | exact Picks.nil _ | (apply Picks.cons; focus ((repeat (first | exact Pick.here _ | apply Pick.there)); (first | done | fail))))))); rfl
      | false =>
        rw [numR_end hb (i3 rfl)] at i4
        have hn := i3 rfl
        cases hb1 : Lex.isLetter x with
        | true =>
          rw [hb1] at hc1 hsp
          rw [hsp, if_pos (by simp)] at i4
          subst i4
          repeat (any_goals (first | refine s_at ?_ | refine s_skip ?_ | refine s_off ?_ | refine s_offn ?_ | refine s_move ?_ | refine s_assign ?_ | refine s_load ?_ | refine s_loade ?_ | refine s_loadd ?_ | refine s_pick1 ?_ | refine s_pick0 ?_ | refine s_pure ?_ | refine s_nil ?_ | refine aw_seq ?_ | refine aw_seqr ?_ | refine aw_block ?_ | refine aw_true ?_ | refine aw_false ?_ | refine s_alloc (fun _ => ?_) | refine s_allocd (fun _ => ?_) | refine s_box (fun _ => ?_) | refine s_box1 (fun _ => ?_) | refine s_store' ?_ | (refine s_cmp (fun h => ?_) (fun h => ?_) <;> try (exfalso; omega)) | refine s_index i hx ?_ | refine s_call0 hc ?_))
          refine aw_exit ?_; (repeat refine then_exit ?_); refine inb_exit ?_; refine then_nor ?_
          repeat (any_goals (first | refine s_at ?_ | refine s_skip ?_ | refine s_off ?_ | refine s_offn ?_ | refine s_move ?_ | refine s_assign ?_ | refine s_load ?_ | refine s_loade ?_ | refine s_loadd ?_ | refine s_pick1 ?_ | refine s_pick0 ?_ | refine s_pure ?_ | refine s_nil ?_ | refine aw_seq ?_ | refine aw_seqr ?_ | refine aw_block ?_ | refine aw_true ?_ | refine aw_false ?_ | refine s_alloc (fun _ => ?_) | refine s_allocd (fun _ => ?_) | refine s_box (fun _ => ?_) | refine s_box1 (fun _ => ?_) | refine s_store' ?_ | (refine s_cmp (fun h => ?_) (fun h => ?_) <;> try (exfalso; omega)) | refine s_index i hx ?_ | refine s_call0 hc1 ?_))
          refine aw_ret ?_; (repeat (first | refine then_ret ?_ | refine inb_ret ?_))
          refine (post_of ⟨?_, rfl⟩ (by (repeat' (first | exact ResVs.nil | apply ResVs.cons | (apply ResV.tmp; first | exact (rfl : _ = AV.sc _) | exact (rfl : _ = AV.ag _) | exact (rfl : _ = AV.sl _ _) | exact (rfl : _ = AV.os _ _ _) | exact (rfl : _ = AV.fn _ _ _)) | (apply ResV.cells; rfl; apply Pick.mem; (repeat (first | exact Pick.here _ | apply Pick.there)); rfl; rfl; rfl; (first | rfl | simp only [ones, List.all_cons, List.all_nil, Bool.and_true, one_int, one_bool, one_str, one_ptr, one_slice, one_sl, one_os, *])) | (apply ResV.cell; rfl; apply Pick.mem; (repeat (first | exact Pick.here _ | apply Pick.there)); rfl; rfl; rfl)))) (by (repeat (first | exact Picks.nil _ | (apply Picks.cons; focus ((repeat (first | exact Pick.here _ | apply Pick.there)); (first | done | fail))))))); rfl
        | false =>
          rw [hb1, Bool.false_or] at hsp
          rw [hb1] at hc1
          repeat (any_goals (first | refine s_at ?_ | refine s_skip ?_ | refine s_off ?_ | refine s_offn ?_ | refine s_move ?_ | refine s_assign ?_ | refine s_load ?_ | refine s_loade ?_ | refine s_loadd ?_ | refine s_pick1 ?_ | refine s_pick0 ?_ | refine s_pure ?_ | refine s_nil ?_ | refine aw_seq ?_ | refine aw_seqr ?_ | refine aw_block ?_ | refine aw_true ?_ | refine aw_false ?_ | refine s_alloc (fun _ => ?_) | refine s_allocd (fun _ => ?_) | refine s_box (fun _ => ?_) | refine s_box1 (fun _ => ?_) | refine s_store' ?_ | (refine s_cmp (fun h => ?_) (fun h => ?_) <;> try (exfalso; omega)) | refine s_index i hx ?_ | refine s_call0 hc ?_))
          refine aw_exit ?_; (repeat refine then_exit ?_); refine inb_exit ?_; refine then_nor ?_
          by_cases h39 : x = 39
          · subst h39
            rw [if_pos (by decide)] at i4
            subst i4
            repeat (any_goals (first | refine s_at ?_ | refine s_skip ?_ | refine s_off ?_ | refine s_offn ?_ | refine s_move ?_ | refine s_assign ?_ | refine s_load ?_ | refine s_loade ?_ | refine s_loadd ?_ | refine s_pick1 ?_ | refine s_pick0 ?_ | refine s_pure ?_ | refine s_nil ?_ | refine aw_seq ?_ | refine aw_seqr ?_ | refine aw_block ?_ | refine aw_true ?_ | refine aw_false ?_ | refine s_alloc (fun _ => ?_) | refine s_allocd (fun _ => ?_) | refine s_box (fun _ => ?_) | refine s_box1 (fun _ => ?_) | refine s_store' ?_ | (refine s_cmp (fun h => ?_) (fun h => ?_) <;> try (exfalso; first | omega | exact h rfl)) | refine s_index i hx ?_ | refine s_call0 hc1 ?_))
            refine aw_ret ?_; (repeat (first | refine then_ret ?_ | refine inb_ret ?_))
            refine (post_of ⟨?_, rfl⟩ (by (repeat' (first | exact ResVs.nil | apply ResVs.cons | (apply ResV.tmp; first | exact (rfl : _ = AV.sc _) | exact (rfl : _ = AV.ag _) | exact (rfl : _ = AV.sl _ _) | exact (rfl : _ = AV.os _ _ _) | exact (rfl : _ = AV.fn _ _ _)) | (apply ResV.cells; rfl; apply Pick.mem; (repeat (first | exact Pick.here _ | apply Pick.there)); rfl; rfl; rfl; (first | rfl | simp only [ones, List.all_cons, List.all_nil, Bool.and_true, one_int, one_bool, one_str, one_ptr, one_slice, one_sl, one_os, *])) | (apply ResV.cell; rfl; apply Pick.mem; (repeat (first | exact Pick.here _ | apply Pick.there)); rfl; rfl; rfl)))) (by (repeat (first | exact Picks.nil _ | (apply Picks.cons; focus ((repeat (first | exact Pick.here _ | apply Pick.there)); (first | done | fail))))))); rfl
          · rw [hsp, show (x == 39) = false from beq_eq_false_iff_ne.2 h39, if_neg (by simp)] at i4
            subst i4
            have h39' : ¬ (x.toNat : Int) = 39 := fun h => h39 (c39.1 h)
            repeat (any_goals (first | refine s_at ?_ | refine s_skip ?_ | refine s_off ?_ | refine s_offn ?_ | refine s_move ?_ | refine s_assign ?_ | refine s_load ?_ | refine s_loade ?_ | refine s_loadd ?_ | refine s_pick1 ?_ | refine s_pick0 ?_ | refine s_pure ?_ | refine s_nil ?_ | refine aw_seq ?_ | refine aw_seqr ?_ | refine aw_block ?_ | refine aw_true ?_ | refine aw_false ?_ | refine s_alloc (fun _ => ?_) | refine s_allocd (fun _ => ?_) | refine s_box (fun _ => ?_) | refine s_box1 (fun _ => ?_) | refine s_store' ?_ | (refine s_cmp (fun h => ?_) (fun h => ?_) <;> try (exfalso; omega)) | refine s_index i hx ?_ | refine s_call0 hc1 ?_))
            refine aw_ret ?_; (repeat (first | refine then_ret ?_ | refine inb_ret ?_))
            refine (post_of ⟨?_, rfl⟩ (by (repeat' (first | exact ResVs.nil | apply ResVs.cons | (apply ResV.tmp; first | exact (rfl : _ = AV.sc _) | exact (rfl : _ = AV.ag _) | exact (rfl : _ = AV.sl _ _) | exact (rfl : _ = AV.os _ _ _) | exact (rfl : _ = AV.fn _ _ _)) | (apply ResV.cells; rfl; apply Pick.mem; (repeat (first | exact Pick.here _ | apply Pick.there)); rfl; rfl; rfl; (first | rfl | simp only [ones, List.all_cons, List.all_nil, Bool.and_true, one_int, one_bool, one_str, one_ptr, one_slice, one_sl, one_os, *])) | (apply ResV.cell; rfl; apply Pick.mem; (repeat (first | exact Pick.here _ | apply Pick.there)); rfl; rfl; rfl)))) (by (repeat (first | exact Picks.nil _ | (apply Picks.cons; focus ((repeat (first | exact Pick.here _ | apply Pick.there)); (first | done | fail))))))); rfl
  · rw [drop_end (by omega)] at i4
    obtain rfl : i = a.size := by omega
    cases big with
    | true =>
      rw [numR_big] at i4
      subst i4
      repeat (any_goals (first | refine s_at ?_ | refine s_skip ?_ | refine s_off ?_ | refine s_offn ?_ | refine s_move ?_ | refine s_assign ?_ | refine s_load ?_ | refine s_loade ?_ | refine s_loadd ?_ | refine s_pick1 ?_ | refine s_pick0 ?_ | refine s_pure ?_ | refine s_nil ?_ | refine aw_seq ?_ | refine aw_seqr ?_ | refine aw_block ?_ | refine aw_true ?_ | refine aw_false ?_ | refine s_alloc (fun _ => ?_) | refine s_allocd (fun _ => ?_) | refine s_box (fun _ => ?_) | refine s_box1 (fun _ => ?_) | refine s_store' ?_ | (refine s_cmp (fun h => ?_) (fun h => ?_) <;> try (exfalso; omega))))
      refine aw_exit ?_; (repeat refine then_exit ?_); refine inb_exit ?_; refine then_nor ?_
      repeat (any_goals (first | refine s_at ?_ | refine s_skip ?_ | refine s_off ?_ | refine s_offn ?_ | refine s_move ?_ | refine s_assign ?_ | refine s_load ?_ | refine s_loade ?_ | refine s_loadd ?_ | refine s_pick1 ?_ | refine s_pick0 ?_ | refine s_pure ?_ | refine s_nil ?_ | refine aw_seq ?_ | refine aw_seqr ?_ | refine aw_block ?_ | refine aw_true ?_ | refine aw_false ?_ | refine s_alloc (fun _ => ?_) | refine s_allocd (fun _ => ?_) | refine s_box (fun _ => ?_) | refine s_box1 (fun _ => ?_) | refine s_store' ?_))
      refine aw_ret ?_; (repeat (first | refine then_ret ?_ | refine inb_ret ?_))
      refine (post_of ⟨?_, rfl⟩ (by (repeat' (first | exact ResVs.nil | apply ResVs.cons | (apply ResV.tmp; first | exact (rfl : _ = AV.sc _) | exact (rfl : _ = AV.ag _) | exact (rfl : _ = AV.sl _ _) | exact (rfl : _ = AV.os _ _ _) | exact (rfl : _ = AV.fn _ _ _)) | (apply ResV.cells; rfl; apply Pick.mem; (repeat (first | exact Pick.here _ | apply Pick.there)); rfl; rfl; rfl; (first | rfl | simp only [ones, List.all_cons, List.all_nil, Bool.and_true, one_int, one_bool, one_str, one_ptr, one_slice, one_sl, one_os, *])) | (apply ResV.cell; rfl; apply Pick.mem; (repeat (first | exact Pick.here _ | apply Pick.there)); rfl; rfl; rfl)))) (by (repeat (first | exact Picks.nil _ | (apply Picks.cons; focus ((repeat (first | exact Pick.here _ | apply Pick.there)); (first | done | fail))))))); rfl
    | false =>
      have hn := i3 rfl
      rw [numR_nil hn] at i4
      subst i4
      repeat (any_goals (first | refine s_at ?_ | refine s_skip ?_ | refine s_off ?_ | refine s_offn ?_ | refine s_move ?_ | refine s_assign ?_ | refine s_load ?_ | refine s_loade ?_ | refine s_loadd ?_ | refine s_pick1 ?_ | refine s_pick0 ?_ | refine s_pure ?_ | refine s_nil ?_ | refine aw_seq ?_ | refine aw_seqr ?_ | refine aw_block ?_ | refine aw_true ?_ | refine aw_false ?_ | refine s_alloc (fun _ => ?_) | refine s_allocd (fun _ => ?_) | refine s_box (fun _ => ?_) | refine s_box1 (fun _ => ?_) | refine s_store' ?_ | (refine s_cmp (fun h => ?_) (fun h => ?_) <;> try (exfalso; omega))))
      refine aw_exit ?_; (repeat refine then_exit ?_); refine inb_exit ?_; refine then_nor ?_
      repeat (any_goals (first | refine s_at ?_ | refine s_skip ?_ | refine s_off ?_ | refine s_offn ?_ | refine s_move ?_ | refine s_assign ?_ | refine s_load ?_ | refine s_loade ?_ | refine s_loadd ?_ | refine s_pick1 ?_ | refine s_pick0 ?_ | refine s_pure ?_ | refine s_nil ?_ | refine aw_seq ?_ | refine aw_seqr ?_ | refine aw_block ?_ | refine aw_true ?_ | refine aw_false ?_ | refine s_alloc (fun _ => ?_) | refine s_allocd (fun _ => ?_) | refine s_box (fun _ => ?_) | refine s_box1 (fun _ => ?_) | refine s_store' ?_ | (refine s_cmp (fun h => ?_) (fun h => ?_) <;> try (exfalso; omega))))
      refine aw_ret ?_; (repeat (first | refine then_ret ?_ | refine inb_ret ?_))
      refine (post_of ⟨?_, rfl⟩ (by (repeat' (first | exact ResVs.nil | apply ResVs.cons | (apply ResV.tmp; first | exact (rfl : _ = AV.sc _) | exact (rfl : _ = AV.ag _) | exact (rfl : _ = AV.sl _ _) | exact (rfl : _ = AV.os _ _ _) | exact (rfl : _ = AV.fn _ _ _)) | (apply ResV.cells; rfl; apply Pick.mem; (repeat (first | exact Pick.here _ | apply Pick.there)); rfl; rfl; rfl; (first | rfl | simp only [ones, List.all_cons, List.all_nil, Bool.and_true, one_int, one_bool, one_str, one_ptr, one_slice, one_sl, one_os, *])) | (apply ResV.cell; rfl; apply Pick.mem; (repeat (first | exact Pick.here _ | apply Pick.there)); rfl; rfl; rfl)))) (by (repeat (first | exact Picks.nil _ | (apply Picks.cons; focus ((repeat (first | exact Pick.here _ | apply Pick.there)); (first | done | fail))))))); rfl
set_option maxRecDepth 20000 in set_option maxHeartbeats 4000000 in
theorem sim_sign (a : ByteArray) (ha : Small a) (p : Nat) (hp : p ≤ a.size) : Sim Tryz.prog I 71 [str a, i64 (p : Int)] [] (fun o τ => o = .ret (str (bs (Lex.signPick (a.data.toList.drop p) [] Lex.signsL))) ∧ τ = []) := by
  have ha' : a.size ≤ 140737488351232 := ha
  have hz : ∀ s, s ∈ Lex.signsL → s.length ≤ 3 := by decide
  have hlen : (sl Lex.signsL).length = 24 := rfl
  have hlen2 : Lex.signsL.length = 24 := rfl
  generalize hr : Lex.signPick (a.data.toList.drop p) [] Lex.signsL = res
  refine sim_body Tryz.func71 rfl rfl rfl ?_
  repeat (any_goals (first | refine s_at ?_ | refine s_skip ?_ | refine s_off ?_ | refine s_offn ?_ | refine s_move ?_ | refine s_assign ?_ | refine s_load ?_ | refine s_loade ?_ | refine s_loadd ?_ | refine s_pick1 ?_ | refine s_pick0 ?_ | refine s_pure ?_ | refine s_nil ?_ | refine aw_seq ?_ | refine aw_seqr ?_ | refine aw_block ?_ | refine aw_true ?_ | refine aw_false ?_ | refine s_alloc (fun _ => ?_) | refine s_allocd (fun _ => ?_) | refine s_box (fun _ => ?_) | refine s_box1 (fun _ => ?_) | refine s_store' ?_ | refine s_call0 (sim_Signs I) ?_))
  refine aw_loop (fun s : Nat × Lex.Bytes => [(0, str a), (1, i64 (p : Int)), (5, .sl 1 (sl Lex.signsL)), (6, str (bs s.2)), (7, i64 (s.1 : Int))]) (fun _ => [])
    (fun s => s.1 ≤ 24 ∧ s.2.length ≤ 3 ∧ Lex.signPick (a.data.toList.drop p) s.2 (Lex.signsL.drop s.1) = res) (fun s => 24 - s.1) (0, []) ⟨Nat.zero_le _, Nat.zero_le _, hr⟩ (EnvLe.of_list (by intro x hx; simp only [List.mem_cons, List.not_mem_nil, or_false] at hx; (repeat (rcases hx with rfl | hx; (focus rfl))); (try (subst hx; rfl)))) [] (List.Perm.refl _) ?_
  rintro ⟨i, best⟩ ⟨i1, i2, i3⟩
  dsimp only at i1 i2 i3 ⊢
  have hbz : (bs best).size = best.length := bs_size best
  by_cases hi : i < 24
  · have hx : Lex.signsL[i]? = some (Lex.signsL[i]'hi) := List.getElem?_eq_getElem hi
    have hdc := List.drop_eq_getElem_cons (l := Lex.signsL) (i := i) (by rw [hlen2]; exact hi)
    rw [hdc, Lex.signPick] at i3
    clear hdc
    have hs3 := hz _ (List.getElem_mem (l := Lex.signsL) (by rw [hlen2]; exact hi))
    generalize Lex.signsL[i]'(by rw [hlen2]; exact hi) = s at hx i3 hs3
    have hsz : (bs s).size = s.length := bs_size s
    have hsm : Small (bs s) := by show (bs s).size ≤ _; omega
    have hc1 := sim_symbols I (bs s) hsm
    have hc2 := sim_begins I a p (bs s) ha hsm hp
    rw [bs_l] at hc1 hc2
    cases h1 : s.all Lex.isSym with
    | true =>
      rw [h1, if_pos rfl] at i3
      rw [h1] at hc1
      repeat (any_goals (first | refine s_at ?_ | refine s_skip ?_ | refine s_off ?_ | refine s_offn ?_ | refine s_move ?_ | refine s_assign ?_ | refine s_load ?_ | refine s_loade ?_ | refine s_loadd ?_ | refine s_pick1 ?_ | refine s_pick0 ?_ | refine s_pure ?_ | refine s_nil ?_ | refine aw_seq ?_ | refine aw_seqr ?_ | refine aw_block ?_ | refine aw_true ?_ | refine aw_false ?_ | refine s_alloc (fun _ => ?_) | refine s_allocd (fun _ => ?_) | refine s_box (fun _ => ?_) | refine s_box1 (fun _ => ?_) | refine s_store' ?_ | (refine s_cmp (fun h => ?_) (fun h => ?_) <;> try (exfalso; omega)) | refine s_elem i (sl_get hx) ?_ | refine s_call0 hc1 ?_ | refine s_add ?_))
      refine d_end fun env' he => ?_
      (repeat (first | refine inb_nor ?_ | refine then_nor ?_))
      refine ⟨(i + 1, best), _, ⟨by dsimp only; omega, i2, i3⟩, by dsimp only; omega, EnvLe.of_eq he (EnvLe.of_list (by intro x hx; simp only [List.mem_cons, List.not_mem_nil, or_false] at hx; (repeat (rcases hx with rfl | hx; (focus rfl))); (try (subst hx; rfl)))), Picks.perm (by (repeat (first | exact Picks.nil _ | (apply Picks.cons; focus ((repeat (first | exact Pick.here _ | apply Pick.there)); (first | done | fail))))))⟩
    | false =>
      rw [h1, if_neg (by simp)] at i3
      rw [h1] at hc1
      cases h2 : s.isPrefixOf (a.data.toList.drop p) with
      | false =>
        rw [h2, Bool.false_and, if_neg (by simp)] at i3
        rw [h2] at hc2
        repeat (any_goals (first | refine s_at ?_ | refine s_skip ?_ | refine s_off ?_ | refine s_offn ?_ | refine s_move ?_ | refine s_assign ?_ | refine s_load ?_ | refine s_loade ?_ | refine s_loadd ?_ | refine s_pick1 ?_ | refine s_pick0 ?_ | refine s_pure ?_ | refine s_nil ?_ | refine aw_seq ?_ | refine aw_seqr ?_ | refine aw_block ?_ | refine aw_true ?_ | refine aw_false ?_ | refine s_alloc (fun _ => ?_) | refine s_allocd (fun _ => ?_) | refine s_box (fun _ => ?_) | refine s_box1 (fun _ => ?_) | refine s_store' ?_ | (refine s_cmp (fun h => ?_) (fun h => ?_) <;> try (exfalso; omega)) | refine s_elem i (sl_get hx) ?_ | refine s_call0 hc1 ?_ | refine s_call0 hc2 ?_ | refine s_add ?_))
        refine d_end fun env' he => ?_
        (repeat (first | refine inb_nor ?_ | refine then_nor ?_))
        refine ⟨(i + 1, best), _, ⟨by dsimp only; omega, i2, i3⟩, by dsimp only; omega, EnvLe.of_eq he (EnvLe.of_list (by intro x hx; simp only [List.mem_cons, List.not_mem_nil, or_false] at hx; (repeat (rcases hx with rfl | hx; (focus rfl))); (try (subst hx; rfl)))), Picks.perm (by (repeat (first | exact Picks.nil _ | (apply Picks.cons; focus ((repeat (first | exact Pick.here _ | apply Pick.there)); (first | done | fail))))))⟩
      | true =>
        rw [h2, Bool.true_and] at i3
        rw [h2] at hc2
        by_cases h3 : best.length < s.length
        · rw [if_pos (decide_eq_true h3)] at i3
          repeat (any_goals (first | refine s_at ?_ | refine s_skip ?_ | refine s_off ?_ | refine s_offn ?_ | refine s_move ?_ | refine s_assign ?_ | refine s_load ?_ | refine s_loade ?_ | refine s_loadd ?_ | refine s_pick1 ?_ | refine s_pick0 ?_ | refine s_pure ?_ | refine s_nil ?_ | refine aw_seq ?_ | refine aw_seqr ?_ | refine aw_block ?_ | refine aw_true ?_ | refine aw_false ?_ | refine s_alloc (fun _ => ?_) | refine s_allocd (fun _ => ?_) | refine s_box (fun _ => ?_) | refine s_box1 (fun _ => ?_) | refine s_store' ?_ | (refine s_cmp (fun h => ?_) (fun h => ?_) <;> try (exfalso; omega)) | refine s_elem i (sl_get hx) ?_ | refine s_call0 hc1 ?_ | refine s_call0 hc2 ?_ | refine s_add ?_))
          refine d_end fun env' he => ?_
          (repeat (first | refine inb_nor ?_ | refine then_nor ?_))
          refine ⟨(i + 1, s), _, ⟨by dsimp only; omega, hs3, i3⟩, by dsimp only; omega, EnvLe.of_eq he (EnvLe.of_list (by intro x hx; simp only [List.mem_cons, List.not_mem_nil, or_false] at hx; (repeat (rcases hx with rfl | hx; (focus rfl))); (try (subst hx; rfl)))), Picks.perm (by (repeat (first | exact Picks.nil _ | (apply Picks.cons; focus ((repeat (first | exact Pick.here _ | apply Pick.there)); (first | done | fail))))))⟩
        · rw [if_neg (by simpa using h3)] at i3
          repeat (any_goals (first | refine s_at ?_ | refine s_skip ?_ | refine s_off ?_ | refine s_offn ?_ | refine s_move ?_ | refine s_assign ?_ | refine s_load ?_ | refine s_loade ?_ | refine s_loadd ?_ | refine s_pick1 ?_ | refine s_pick0 ?_ | refine s_pure ?_ | refine s_nil ?_ | refine aw_seq ?_ | refine aw_seqr ?_ | refine aw_block ?_ | refine aw_true ?_ | refine aw_false ?_ | refine s_alloc (fun _ => ?_) | refine s_allocd (fun _ => ?_) | refine s_box (fun _ => ?_) | refine s_box1 (fun _ => ?_) | refine s_store' ?_ | (refine s_cmp (fun h => ?_) (fun h => ?_) <;> try (exfalso; omega)) | refine s_elem i (sl_get hx) ?_ | refine s_call0 hc1 ?_ | refine s_call0 hc2 ?_ | refine s_add ?_))
          refine d_end fun env' he => ?_
          (repeat (first | refine inb_nor ?_ | refine then_nor ?_))
          refine ⟨(i + 1, best), _, ⟨by dsimp only; omega, i2, i3⟩, by dsimp only; omega, EnvLe.of_eq he (EnvLe.of_list (by intro x hx; simp only [List.mem_cons, List.not_mem_nil, or_false] at hx; (repeat (rcases hx with rfl | hx; (focus rfl))); (try (subst hx; rfl)))), Picks.perm (by (repeat (first | exact Picks.nil _ | (apply Picks.cons; focus ((repeat (first | exact Pick.here _ | apply Pick.there)); (first | done | fail))))))⟩
  · obtain rfl : i = 24 := by omega
    repeat (any_goals (first | refine s_at ?_ | refine s_skip ?_ | refine s_off ?_ | refine s_offn ?_ | refine s_move ?_ | refine s_assign ?_ | refine s_load ?_ | refine s_loade ?_ | refine s_loadd ?_ | refine s_pick1 ?_ | refine s_pick0 ?_ | refine s_pure ?_ | refine s_nil ?_ | refine aw_seq ?_ | refine aw_seqr ?_ | refine aw_block ?_ | refine aw_true ?_ | refine aw_false ?_ | refine s_alloc (fun _ => ?_) | refine s_allocd (fun _ => ?_) | refine s_box (fun _ => ?_) | refine s_box1 (fun _ => ?_) | refine s_store' ?_ | (refine s_cmp (fun h => ?_) (fun h => ?_) <;> try (exfalso; omega))))
    refine aw_exit ?_; (repeat refine then_exit ?_); refine inb_exit ?_; refine then_nor ?_
    repeat (any_goals (first | refine s_at ?_ | refine s_skip ?_ | refine s_off ?_ | refine s_offn ?_ | refine s_move ?_ | refine s_assign ?_ | refine s_load ?_ | refine s_loade ?_ | refine s_loadd ?_ | refine s_pick1 ?_ | refine s_pick0 ?_ | refine s_pure ?_ | refine s_nil ?_ | refine aw_seq ?_ | refine aw_seqr ?_ | refine aw_block ?_ | refine aw_true ?_ | refine aw_false ?_ | refine s_alloc (fun _ => ?_) | refine s_allocd (fun _ => ?_) | refine s_box (fun _ => ?_) | refine s_box1 (fun _ => ?_) | refine s_store' ?_))
    refine aw_ret ?_; (repeat (first | refine then_ret ?_ | refine inb_ret ?_))
    refine (post_of ⟨?_, rfl⟩ (by (repeat' (first | exact ResVs.nil | apply ResVs.cons | (apply ResV.tmp; first | exact (rfl : _ = AV.sc _) | exact (rfl : _ = AV.ag _) | exact (rfl : _ = AV.sl _ _) | exact (rfl : _ = AV.os _ _ _) | exact (rfl : _ = AV.fn _ _ _)) | (apply ResV.cells; rfl; apply Pick.mem; (repeat (first | exact Pick.here _ | apply Pick.there)); rfl; rfl; rfl; (first | rfl | simp only [ones, List.all_cons, List.all_nil, Bool.and_true, one_int, one_bool, one_str, one_ptr, one_slice, one_sl, one_os, *])) | (apply ResV.cell; rfl; apply Pick.mem; (repeat (first | exact Pick.here _ | apply Pick.there)); rfl; rfl; rfl)))) (by (repeat (first | exact Picks.nil _ | (apply Picks.cons; focus ((repeat (first | exact Pick.here _ | apply Pick.there)); (first | done | fail)))))))
    rw [← i3]; rfl
end
end Go.Proofs.YtglgppkjgodlkaaGreatDoor.J
