/- The reference of package lex, walked over deep values: one token, all tokens. Conditions: none. -/
import Derived.Test.YtglgppkjgodlkaaGreatDoorJD
namespace Go.Proofs.YtglgppkjgodlkaaGreatDoor.J
open Go.Dp Rl
set_option linter.unusedVariables false
set_option linter.unusedSimpArgs false
/-- A token of the plain scanner. -/
def etk (t : Lex.Tok) : AV := etkB t.kind t.n (bs t.s) (t.b : Int) (t.e : Int)
theorem tw_take (f : UInt8 → Bool) : ∀ l : Lex.Bytes, l.take (l.takeWhile f).length = l.takeWhile f
  | [] => rfl
  | c :: l => by
    rw [List.takeWhile_cons]
    split
    · rw [List.length_cons, List.take_succ_cons, tw_take f l]
    · rfl
/-- What One tells of a step. -/
def OnePost (p : Nat) (s : Lex.Step) (o : Out) : Prop := match s with
  | .tok kd n b k => o = .ret (.tu [etkB kd n (bs b) (p : Int) ((p + k : Nat) : Int), boo true])
  | .bad => ∃ kd n s b e, o = .ret (.tu [etkB kd n s b e, boo false])
  | _ => False
theorem cut_at {a : ByteArray} {p m : Nat} (hm : p + m ≤ a.size) : a.extract p (p + m) = bs ((a.data.toList.drop p).take m) := by
  rw [bytes_eq, ext_l, bs_l, List.drop_take, Nat.add_sub_cancel_left]
section
variable (I : World → Prop)
set_option maxRecDepth 20000 in set_option maxHeartbeats 4000000 in
theorem one_word (a : ByteArray) (ha : Small a) (p : Nat) {c : UInt8} {r : Lex.Bytes} (hx : a.data.toList[p]? = some c) (hl : a.data.toList.drop p = c :: r) (hp : p < a.size) (h1 : Lex.isLetter c = true) :
    Sim Tryz.prog I 47 [str a, i64 (p : Int)] [] (fun o τ => OnePost p (Lex.wordStep (c :: r)) o ∧ τ = []) := by
  have ha' : a.size ≤ 140737488351232 := ha
  have hw := Lex.takeWhile_len Lex.inName (c :: r)
  have hlen : (c :: r).length = a.size - p := by rw [← hl, List.length_drop, size_l]
  have hc := sim_letter I c
  have hn := sim_name I a ha p (by omega)
  have hct := cut_at (a := a) (p := p) (m := ((c :: r).takeWhile Lex.inName).length) (by omega)
  rw [hl] at hn hct
  rw [tw_take] at hct
  have hin := sim_In I Lex.wordsL (by decide) (bs ((c :: r).takeWhile Lex.inName))
  rw [bs_l] at hin
  rw [h1] at hc
  unfold Lex.wordStep
  simp only
  generalize (c :: r).takeWhile Lex.inName = w at *
  refine sim_body Tryz.func47 rfl rfl rfl ?_
  cases hiw : Lex.wordsL.contains w <;> rw [hiw] at hin <;> by_cases h32 : w.length > 32
  all_goals
    repeat (any_goals (first | refine s_at ?_ | refine s_skip ?_ | refine s_off ?_ | refine s_offn ?_ | refine s_move ?_ | refine s_assign ?_ | refine s_load ?_ | refine s_loade ?_ | refine s_loadd ?_ | refine s_pick1 ?_ | refine s_pick0 ?_ | refine s_pure ?_ | refine s_nil ?_ | refine aw_seq ?_ | refine aw_seqr ?_ | refine aw_block ?_ | refine aw_true ?_ | refine aw_false ?_ | refine s_alloc (fun _ => ?_) | refine s_allocd (fun _ => ?_) | refine s_box (fun _ => ?_) | refine s_box1 (fun _ => ?_) | refine s_store' ?_ | (refine s_cmp (fun h => ?_) (fun h => ?_) <;> try (exfalso; omega)) | refine s_index p hx ?_ | refine s_call0 hc ?_ | refine s_call0 hn ?_ | (refine s_cut p (p + w.length) ?_; rw [hct]) | refine s_call0 (sim_Words I) ?_ | refine s_call0 hin ?_ | refine s_draw [] ?_ | refine s_add ?_ | refine s_sub ?_))
    refine aw_ret ?_; (repeat (first | refine then_ret ?_ | refine inb_ret ?_))
    refine (post_of ⟨?_, rfl⟩ (by (repeat' (first | exact ResVs.nil | apply ResVs.cons | (apply ResV.tmp; first | exact (rfl : _ = AV.sc _) | exact (rfl : _ = AV.ag _) | exact (rfl : _ = AV.sl _ _) | exact (rfl : _ = AV.os _ _ _) | exact (rfl : _ = AV.fn _ _ _)) | (apply ResV.cells; rfl; apply Pick.mem; (repeat (first | exact Pick.here _ | apply Pick.there)); rfl; rfl; rfl; (first | rfl | simp only [ones, List.all_cons, List.all_nil, Bool.and_true, one_int, one_bool, one_str, one_ptr, one_slice, one_sl, one_os, *])) | (apply ResV.cell; rfl; apply Pick.mem; (repeat (first | exact Pick.here _ | apply Pick.there)); rfl; rfl; rfl)))) (by (repeat (first | exact Picks.nil _ | (apply Picks.cons; focus ((repeat (first | exact Pick.here _ | apply Pick.there)); (first | done | fail)))))))
    first | (rw [if_pos h32]; exact ⟨_, _, _, _, _, rfl⟩) | (rw [if_neg h32]; rfl)
set_option maxRecDepth 20000 in set_option maxHeartbeats 4000000 in
theorem one_number (a : ByteArray) (ha : Small a) (p : Nat) {c : UInt8} {r : Lex.Bytes} (hx : a.data.toList[p]? = some c) (hl : a.data.toList.drop p = c :: r) (hp : p < a.size) (h1 : Lex.isLetter c = false) (h2 : Lex.isDigit c = true) :
    Sim Tryz.prog I 47 [str a, i64 (p : Int)] [] (fun o τ => OnePost p (Lex.numStep (c :: r)) o ∧ τ = []) := by
  have ha' : a.size ≤ 140737488351232 := ha
  have hc := sim_letter I c
  have hc2 := sim_digit I c
  have hn := sim_number I a ha p (by omega)
  rw [h1] at hc
  rw [h2] at hc2
  rw [hl] at hn
  unfold numR at hn
  unfold Lex.numStep
  simp only at hn ⊢
  rw [show digFrom 0 ((c :: r).takeWhile Lex.isDigit) = Lex.digVal ((c :: r).takeWhile Lex.isDigit) from rfl] at hn
  refine sim_body Tryz.func47 rfl rfl rfl ?_
  by_cases h3 : Lex.digVal ((c :: r).takeWhile Lex.isDigit) > 2147483647
  · rw [if_pos (.inr h3)] at hn
    simp only [NumPost] at hn
    rw [if_pos h3]
    repeat (any_goals (first | refine s_at ?_ | refine s_skip ?_ | refine s_off ?_ | refine s_offn ?_ | refine s_move ?_ | refine s_assign ?_ | refine s_load ?_ | refine s_loade ?_ | refine s_loadd ?_ | refine s_pick1 ?_ | refine s_pick0 ?_ | refine s_pure ?_ | refine s_nil ?_ | refine aw_seq ?_ | refine aw_seqr ?_ | refine aw_block ?_ | refine aw_true ?_ | refine aw_false ?_ | refine s_alloc (fun _ => ?_) | refine s_allocd (fun _ => ?_) | refine s_box (fun _ => ?_) | refine s_box1 (fun _ => ?_) | refine s_store' ?_ | (refine s_cmp (fun h => ?_) (fun h => ?_) <;> try (exfalso; omega)) | refine s_index p hx ?_ | refine s_call0 hc ?_ | refine s_call0 hc2 ?_ | refine s_call0 hn ?_))
    refine aw_ret ?_; (repeat (first | refine then_ret ?_ | refine inb_ret ?_))
    exact post_of ⟨⟨_, _, _, _, _, rfl⟩, rfl⟩ (by (repeat' (first | exact ResVs.nil | apply ResVs.cons | (apply ResV.tmp; first | exact (rfl : _ = AV.sc _) | exact (rfl : _ = AV.ag _) | exact (rfl : _ = AV.sl _ _) | exact (rfl : _ = AV.os _ _ _) | exact (rfl : _ = AV.fn _ _ _)) | (apply ResV.cells; rfl; apply Pick.mem; (repeat (first | exact Pick.here _ | apply Pick.there)); rfl; rfl; rfl; (first | rfl | simp only [ones, List.all_cons, List.all_nil, Bool.and_true, one_int, one_bool, one_str, one_ptr, one_slice, one_sl, one_os, *])) | (apply ResV.cell; rfl; apply Pick.mem; (repeat (first | exact Pick.here _ | apply Pick.there)); rfl; rfl; rfl)))) (by (repeat (first | exact Picks.nil _ | (apply Picks.cons; focus ((repeat (first | exact Pick.here _ | apply Pick.there)); (first | done | fail))))))
  · have a1 : ¬ (false = true ∨ Lex.digVal ((c :: r).takeWhile Lex.isDigit) > 2147483647) := by rintro (h' | h'); (· cases h'); (· exact h3 h')
    rw [if_neg a1] at hn
    rw [if_neg h3]
    cases h4 : Lex.nextInName ((c :: r).drop ((c :: r).takeWhile Lex.isDigit).length) with
    | true =>
      rw [h4, if_pos rfl] at hn
      simp only [NumPost] at hn
      rw [if_pos rfl]
      repeat (any_goals (first | refine s_at ?_ | refine s_skip ?_ | refine s_off ?_ | refine s_offn ?_ | refine s_move ?_ | refine s_assign ?_ | refine s_load ?_ | refine s_loade ?_ | refine s_loadd ?_ | refine s_pick1 ?_ | refine s_pick0 ?_ | refine s_pure ?_ | refine s_nil ?_ | refine aw_seq ?_ | refine aw_seqr ?_ | refine aw_block ?_ | refine aw_true ?_ | refine aw_false ?_ | refine s_alloc (fun _ => ?_) | refine s_allocd (fun _ => ?_) | refine s_box (fun _ => ?_) | refine s_box1 (fun _ => ?_) | refine s_store' ?_ | (refine s_cmp (fun h => ?_) (fun h => ?_) <;> try (exfalso; omega)) | refine s_index p hx ?_ | refine s_call0 hc ?_ | refine s_call0 hc2 ?_ | refine s_call0 hn ?_))
      refine aw_ret ?_; (repeat (first | refine then_ret ?_ | refine inb_ret ?_))
      exact post_of ⟨⟨_, _, _, _, _, rfl⟩, rfl⟩ (by (repeat' (first | exact ResVs.nil | apply ResVs.cons | (apply ResV.tmp; first | exact (rfl : _ = AV.sc _) | exact (rfl : _ = AV.ag _) | exact (rfl : _ = AV.sl _ _) | exact (rfl : _ = AV.os _ _ _) | exact (rfl : _ = AV.fn _ _ _)) | (apply ResV.cells; rfl; apply Pick.mem; (repeat (first | exact Pick.here _ | apply Pick.there)); rfl; rfl; rfl; (first | rfl | simp only [ones, List.all_cons, List.all_nil, Bool.and_true, one_int, one_bool, one_str, one_ptr, one_slice, one_sl, one_os, *])) | (apply ResV.cell; rfl; apply Pick.mem; (repeat (first | exact Pick.here _ | apply Pick.there)); rfl; rfl; rfl)))) (by (repeat (first | exact Picks.nil _ | (apply Picks.cons; focus ((repeat (first | exact Pick.here _ | apply Pick.there)); (first | done | fail))))))
    | false =>
      rw [h4, if_neg (by simp)] at hn
      simp only [NumPost] at hn
      rw [if_neg (by simp)]
      repeat (any_goals (first | refine s_at ?_ | refine s_skip ?_ | refine s_off ?_ | refine s_offn ?_ | refine s_move ?_ | refine s_assign ?_ | refine s_load ?_ | refine s_loade ?_ | refine s_loadd ?_ | refine s_pick1 ?_ | refine s_pick0 ?_ | refine s_pure ?_ | refine s_nil ?_ | refine aw_seq ?_ | refine aw_seqr ?_ | refine aw_block ?_ | refine aw_true ?_ | refine aw_false ?_ | refine s_alloc (fun _ => ?_) | refine s_allocd (fun _ => ?_) | refine s_box (fun _ => ?_) | refine s_box1 (fun _ => ?_) | refine s_store' ?_ | (refine s_cmp (fun h => ?_) (fun h => ?_) <;> try (exfalso; omega)) | refine s_index p hx ?_ | refine s_call0 hc ?_ | refine s_call0 hc2 ?_ | refine s_call0 hn ?_))
      refine aw_ret ?_; (repeat (first | refine then_ret ?_ | refine inb_ret ?_))
      refine post_of ⟨?_, rfl⟩ (by (repeat' (first | exact ResVs.nil | apply ResVs.cons | (apply ResV.tmp; first | exact (rfl : _ = AV.sc _) | exact (rfl : _ = AV.ag _) | exact (rfl : _ = AV.sl _ _) | exact (rfl : _ = AV.os _ _ _) | exact (rfl : _ = AV.fn _ _ _)) | (apply ResV.cells; rfl; apply Pick.mem; (repeat (first | exact Pick.here _ | apply Pick.there)); rfl; rfl; rfl; (first | rfl | simp only [ones, List.all_cons, List.all_nil, Bool.and_true, one_int, one_bool, one_str, one_ptr, one_slice, one_sl, one_os, *])) | (apply ResV.cell; rfl; apply Pick.mem; (repeat (first | exact Pick.here _ | apply Pick.there)); rfl; rfl; rfl)))) (by (repeat (first | exact Picks.nil _ | (apply Picks.cons; focus ((repeat (first | exact Pick.here _ | apply Pick.there)); (first | done | fail))))))
      rfl
set_option maxRecDepth 20000 in set_option maxHeartbeats 4000000 in
theorem one_sign (a : ByteArray) (ha : Small a) (p : Nat) {c : UInt8} {r s : Lex.Bytes} (hx : a.data.toList[p]? = some c) (hl : a.data.toList.drop p = c :: r) (hp : p < a.size) (h1 : Lex.isLetter c = false) (h2 : Lex.isDigit c = false)
    (hs : Lex.signPick (c :: r) [] Lex.signsL = s) (hne : s ≠ []) (h3 : s.length ≤ 3) :
    Sim Tryz.prog I 47 [str a, i64 (p : Int)] [] (fun o τ => o = .ret (.tu [etkB 5 0 (bs s) (p : Int) ((p + s.length : Nat) : Int), boo true]) ∧ τ = []) := by
  have ha' : a.size ≤ 140737488351232 := ha
  have hc := sim_letter I c
  have hc2 := sim_digit I c
  have hn := sim_sign I a ha p (by omega)
  rw [h1] at hc
  rw [h2] at hc2
  rw [hl, hs] at hn
  have hz := bs_size s
  have hb : bs s ≠ ⟨#[]⟩ := fun e => hne (by have := bytes_eq.1 e; rw [bs_l] at this; exact this)
  refine sim_body Tryz.func47 rfl rfl rfl ?_
  repeat (any_goals (first | refine s_at ?_ | refine s_skip ?_ | refine s_off ?_ | refine s_offn ?_ | refine s_move ?_ | refine s_assign ?_ | refine s_load ?_ | refine s_loade ?_ | refine s_loadd ?_ | refine s_pick1 ?_ | refine s_pick0 ?_ | refine s_pure ?_ | refine s_nil ?_ | refine aw_seq ?_ | refine aw_seqr ?_ | refine aw_block ?_ | refine aw_true ?_ | refine aw_false ?_ | refine s_alloc (fun _ => ?_) | refine s_allocd (fun _ => ?_) | refine s_box (fun _ => ?_) | refine s_box1 (fun _ => ?_) | refine s_store' ?_ | (refine s_cmp (fun h => ?_) (fun h => ?_) <;> try (exfalso; omega)) | refine s_index p hx ?_ | refine s_call0 hc ?_ | refine s_call0 hc2 ?_ | refine s_call0 hn ?_ | (refine s_cmps (fun h => ?_) (fun h => ?_) <;> try (exact absurd hb h)) | refine s_add ?_))
  refine aw_ret ?_; (repeat (first | refine then_ret ?_ | refine inb_ret ?_))
  refine post_of ⟨?_, rfl⟩ (by (repeat' (first | exact ResVs.nil | apply ResVs.cons | (apply ResV.tmp; first | exact (rfl : _ = AV.sc _) | exact (rfl : _ = AV.ag _) | exact (rfl : _ = AV.sl _ _) | exact (rfl : _ = AV.os _ _ _) | exact (rfl : _ = AV.fn _ _ _)) | (apply ResV.cells; rfl; apply Pick.mem; (repeat (first | exact Pick.here _ | apply Pick.there)); rfl; rfl; rfl; (first | rfl | simp only [ones, List.all_cons, List.all_nil, Bool.and_true, one_int, one_bool, one_str, one_ptr, one_slice, one_sl, one_os, *])) | (apply ResV.cell; rfl; apply Pick.mem; (repeat (first | exact Pick.here _ | apply Pick.there)); rfl; rfl; rfl)))) (by (repeat (first | exact Picks.nil _ | (apply Picks.cons; focus ((repeat (first | exact Pick.here _ | apply Pick.there)); (first | done | fail))))))
  rw [← hz]
  rfl
end
end Go.Proofs.YtglgppkjgodlkaaGreatDoor.J
