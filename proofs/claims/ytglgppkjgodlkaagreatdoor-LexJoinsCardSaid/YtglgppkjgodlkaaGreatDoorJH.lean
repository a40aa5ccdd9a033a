/- The reference of package lex, walked over deep values: tokens that are right, and that stand side by side. Conditions: none. -/
import Derived.Test.YtglgppkjgodlkaaGreatDoorJG
import Derived.Test.YtglgppkjgodlkaaGreatDoorLTC
namespace Go.Proofs.YtglgppkjgodlkaaGreatDoor.J
open Go.Dp Rl
set_option linter.unusedVariables false
set_option linter.unusedSimpArgs false
/-- A token that is given. -/
structure Tz where
  kd : Int
  n : Int
  s : ByteArray
  b : Int
  e : Int
def ez (t : Tz) : AV := etkB t.kd t.n t.s t.b t.e
def Tz.tok (t : Tz) : Lex.Tok := ⟨t.kd, t.n, t.s.data.toList, 0, 0⟩
structure FineZ (t : Tz) : Prop where
  n0 : -9223372036854775808 ≤ t.n
  n1 : t.n ≤ 9223372036854775807
  sz : t.s.size ≤ 20000
theorem FineZ.len {t : Tz} (h : FineZ t) : t.tok.txt.length ≤ 20020 := by
  have := Lex.txt_len t.tok h.n0 h.n1
  have e : t.tok.s.length = t.s.size := size_l _
  have := h.sz
  omega
def ItoaAll (I : World → Prop) : Prop := ∀ n : Int, -9223372036854775808 ≤ n → n ≤ 9223372036854775807 → Sim Tryz.prog I 57 [i64 n] [] (fun o τ => o = .ret (str (bs (Lib.itoa n))) ∧ τ = [])
def likeB (x y : Lex.Tok) : Bool := decide (x.kind = y.kind) && decide (x.n = y.n) && decide (x.s = y.s)
theorem likeB_iff {x y : Lex.Tok} : likeB x y = true ↔ Lex.Like x y := by simp [likeB, Lex.Like, and_assoc]
def rightB (t : Lex.Tok) : Bool := decide (Lex.step t.txt = .tok t.kind t.n t.s t.txt.length)
theorem rightB_iff {t : Lex.Tok} : rightB t = true ↔ Lex.Right t := by simp [rightB, Lex.Right]
def apartB (a b : Lex.Tok) : Bool := decide (Lex.step (a.txt ++ b.txt) = .tok a.kind a.n a.s a.txt.length)
theorem apartB_iff {a b : Lex.Tok} : apartB a b = true ↔ Lex.Apart a b := by simp [apartB, Lex.Apart]
theorem toks_in {l : Lex.Bytes} {p : Nat} {ts : List Lex.Tok} {cs : List (Nat × Nat)} {l' : Lex.Bytes} {p' : Nat} (h : Lex.Runs l p ts cs l' p') : ∀ t, t ∈ ts → p ≤ t.b ∧ t.b < t.e ∧ t.e ≤ p' := by
  induction h with
  | nil => intro t ht; cases ht
  | skip h _ ih => intro t ht; have := ih t ht; omega
  | comm h _ ih => intro t ht; have := ih t ht; omega
  | tok h hr ih =>
    intro t ht
    have hk := Lex.step_tok h
    obtain ⟨k, e1, _, _⟩ := hr.place
    rcases List.mem_cons.1 ht with rfl | ht
    · dsimp only; omega
    · have := ih t ht; omega
section
variable (I : World → Prop)
set_option maxRecDepth 20000 in set_option maxHeartbeats 4000000 in
theorem sim_Text (hI : ItoaAll I) (t : Tz) (h0 : -9223372036854775808 ≤ t.n) (h1 : t.n ≤ 9223372036854775807) : Sim Tryz.prog I 27 [ez t] [] (fun o τ => o = .ret (str (bs t.tok.txt)) ∧ τ = []) := by
  have hit := hI t.n h0 h1
  obtain ⟨kd, n, s, b, e⟩ := t
  dsimp only at h0 h1 hit
  unfold ez
  dsimp only
  refine sim_body Tryz.func27 rfl rfl rfl ?_
  repeat (any_goals (first | refine s_at ?_ | refine s_skip ?_ | refine s_off ?_ | refine s_offn ?_ | refine s_move ?_ | refine s_assign ?_ | refine s_load ?_ | refine s_loade ?_ | refine s_loadd ?_ | refine s_pick1 ?_ | refine s_pick0 ?_ | refine s_pure ?_ | refine s_nil ?_ | refine aw_seq ?_ | refine aw_seqr ?_ | refine aw_block ?_ | refine aw_true ?_ | refine aw_false ?_ | refine s_alloc (fun _ => ?_) | refine s_allocd (fun _ => ?_) | refine s_box (fun _ => ?_) | refine s_box1 (fun _ => ?_) | refine s_store' ?_ | refine s_cmp (fun h => ?_) (fun h => ?_) | refine s_call0 hit ?_))
  · refine aw_ret ?_; (repeat (first | refine then_ret ?_ | refine inb_ret ?_))
    refine post_of ⟨?_, rfl⟩ (by (repeat' (first | exact ResVs.nil | apply ResVs.cons | (apply ResV.tmp; first | exact (rfl : _ = AV.sc _) | exact (rfl : _ = AV.ag _) | exact (rfl : _ = AV.sl _ _) | exact (rfl : _ = AV.os _ _ _) | exact (rfl : _ = AV.fn _ _ _)) | (apply ResV.cells; rfl; apply Pick.mem; (repeat (first | exact Pick.here _ | apply Pick.there)); rfl; rfl; rfl; (first | rfl | simp only [ones, List.all_cons, List.all_nil, Bool.and_true, one_int, one_bool, one_str, one_ptr, one_slice, one_sl, one_os, *])) | (apply ResV.cell; rfl; apply Pick.mem; (repeat (first | exact Pick.here _ | apply Pick.there)); rfl; rfl; rfl)))) (by (repeat (first | exact Picks.nil _ | (apply Picks.cons; focus ((repeat (first | exact Pick.here _ | apply Pick.there)); (first | done | fail))))))
    have e1 : (Tz.tok ⟨kd, n, s, b, e⟩).txt = if kd = 3 then Lib.itoa n else s.data.toList := rfl
    rw [e1, if_pos h]; rfl
  · refine aw_ret ?_; (repeat (first | refine then_ret ?_ | refine inb_ret ?_))
    refine post_of ⟨?_, rfl⟩ (by (repeat' (first | exact ResVs.nil | apply ResVs.cons | (apply ResV.tmp; first | exact (rfl : _ = AV.sc _) | exact (rfl : _ = AV.ag _) | exact (rfl : _ = AV.sl _ _) | exact (rfl : _ = AV.os _ _ _) | exact (rfl : _ = AV.fn _ _ _)) | (apply ResV.cells; rfl; apply Pick.mem; (repeat (first | exact Pick.here _ | apply Pick.there)); rfl; rfl; rfl; (first | rfl | simp only [ones, List.all_cons, List.all_nil, Bool.and_true, one_int, one_bool, one_str, one_ptr, one_slice, one_sl, one_os, *])) | (apply ResV.cell; rfl; apply Pick.mem; (repeat (first | exact Pick.here _ | apply Pick.there)); rfl; rfl; rfl)))) (by (repeat (first | exact Picks.nil _ | (apply Picks.cons; focus ((repeat (first | exact Pick.here _ | apply Pick.there)); (first | done | fail))))))
    have e1 : (Tz.tok ⟨kd, n, s, b, e⟩).txt = if kd = 3 then Lib.itoa n else s.data.toList := rfl
    rw [e1, if_neg h]; rfl
set_option maxRecDepth 20000 in set_option maxHeartbeats 4000000 in
theorem sim_Like (x y : Tz) : Sim Tryz.prog I 29 [ez x, ez y] [] (fun o τ => o = .ret (boo (likeB x.tok y.tok)) ∧ τ = []) := by
  obtain ⟨kd, n, s, b, e⟩ := x
  obtain ⟨kd2, n2, s2, b2, e2⟩ := y
  unfold ez
  dsimp only
  refine sim_body Tryz.func29 rfl rfl rfl ?_
  repeat (any_goals (first | refine s_at ?_ | refine s_skip ?_ | refine s_off ?_ | refine s_offn ?_ | refine s_move ?_ | refine s_assign ?_ | refine s_load ?_ | refine s_loade ?_ | refine s_loadd ?_ | refine s_pick1 ?_ | refine s_pick0 ?_ | refine s_pure ?_ | refine s_nil ?_ | refine aw_seq ?_ | refine aw_seqr ?_ | refine aw_block ?_ | refine aw_true ?_ | refine aw_false ?_ | refine s_alloc (fun _ => ?_) | refine s_allocd (fun _ => ?_) | refine s_box (fun _ => ?_) | refine s_box1 (fun _ => ?_) | refine s_store' ?_ | refine s_cmp (fun h => ?_) (fun h => ?_) | refine s_cmps (fun h => ?_) (fun h => ?_)))
  all_goals
    refine aw_ret ?_; (repeat (first | refine then_ret ?_ | refine inb_ret ?_))
    refine post_of ⟨ret_boo ?_, rfl⟩ (by (repeat' (first | exact ResVs.nil | apply ResVs.cons | (apply ResV.tmp; first | exact (rfl : _ = AV.sc _) | exact (rfl : _ = AV.ag _) | exact (rfl : _ = AV.sl _ _) | exact (rfl : _ = AV.os _ _ _) | exact (rfl : _ = AV.fn _ _ _)) | (apply ResV.cells; rfl; apply Pick.mem; (repeat (first | exact Pick.here _ | apply Pick.there)); rfl; rfl; rfl; (first | rfl | simp only [ones, List.all_cons, List.all_nil, Bool.and_true, one_int, one_bool, one_str, one_ptr, one_slice, one_sl, one_os, *])) | (apply ResV.cell; rfl; apply Pick.mem; (repeat (first | exact Pick.here _ | apply Pick.there)); rfl; rfl; rfl)))) (by (repeat (first | exact Picks.nil _ | (apply Picks.cons; focus ((repeat (first | exact Pick.here _ | apply Pick.there)); (first | done | fail))))))
    simp [likeB, Tz.tok, *]
  exact fun h' => absurd (bytes_eq.2 (by simpa using h')) ‹_›
/-- A token of the scanner, as one that is given. -/
def tzOf (t : Lex.Tok) : Tz := ⟨t.kind, t.n, bs t.s, t.b, t.e⟩
theorem etk_ez (t : Lex.Tok) : etk t = ez (tzOf t) := rfl
theorem like_of (t : Lex.Tok) (y : Lex.Tok) : likeB (tzOf t).tok y = likeB t y := rfl
theorem ez_cells (t : Tz) : ez t = .ag [i64 t.kd, i64 t.n, str t.s, i64 t.b, i64 t.e] := rfl
set_option maxRecDepth 20000 in set_option maxHeartbeats 4000000 in
theorem sim_Right (hI : ItoaAll I) (t : Tz) (hf : FineZ t) : Sim Tryz.prog I 56 [ez t] [] (fun o τ => o = .ret (boo (rightB t.tok)) ∧ τ = []) := by
  have hlen := hf.len
  have hone := Lex.one_right (t := t.tok) (by omega)
  have htx := sim_Text I hI t hf.n0 hf.n1
  have htk := sim_rtokens I (bs t.tok.txt) (by show (bs t.tok.txt).size ≤ _; rw [bs_size]; omega)
  have hlk := fun u : Lex.Tok => (show Sim Tryz.prog I 29 [.ag [i64 u.kind, i64 u.n, str (bs u.s), i64 (u.b : Int), i64 (u.e : Int)], .ag [i64 t.kd, i64 t.n, str t.s, i64 t.b, i64 t.e]] [] (fun o τ => o = .ret (boo (likeB u t.tok)) ∧ τ = []) from sim_Like I (tzOf u) t)
  rw [bs_l] at htk
  have hbz := bs_size t.tok.txt
  have hsl : t.s.size = t.tok.s.length := (size_l _).symm
  have hno : ¬ Lex.Right t.tok → rightB t.tok = false := fun h => by
    cases hb : rightB t.tok with
    | false => rfl
    | true => exact absurd (rightB_iff.1 hb) h
  have hsm : Lex.Right t.tok → t.tok.s.length ≤ 64 ∧ ¬ (t.tok.kind = 3 ∧ t.tok.n < 0) := fun h => h.small
  have hk : t.tok.kind = t.kd := rfl
  have hn : t.tok.n = t.n := rfl
  rw [ez_cells] at *
  generalize htt : t.tok.txt = T at *
  rcases hr : Lex.tokensL T with ⟨ts, p, e⟩
  rw [hr] at htk
  unfold toksV at htk
  dsimp only at htk
  have hml : (ts.map etk).length = ts.length := List.length_map ..
  refine sim_body Tryz.func56 rfl rfl rfl ?_
  by_cases hbad : (t.kd = 3 ∧ t.n < 0) ∨ 64 < t.s.size
  · have hnr : rightB t.tok = false := hno (fun h => by have := hsm h; rw [hk, hn] at this; omega)
    rw [hnr]
    repeat (any_goals (first | refine s_at ?_ | refine s_skip ?_ | refine s_off ?_ | refine s_offn ?_ | refine s_move ?_ | refine s_assign ?_ | refine s_load ?_ | refine s_loade ?_ | refine s_loadd ?_ | refine s_pick1 ?_ | refine s_pick0 ?_ | refine s_pure ?_ | refine s_nil ?_ | refine aw_seq ?_ | refine aw_seqr ?_ | refine aw_block ?_ | refine aw_true ?_ | refine aw_false ?_ | refine s_alloc (fun _ => ?_) | refine s_allocd (fun _ => ?_) | refine s_box (fun _ => ?_) | refine s_box1 (fun _ => ?_) | refine s_store' ?_ | (refine s_cmp (fun h => ?_) (fun h => ?_) <;> try (exfalso; omega))))
    all_goals
      refine aw_ret ?_; (repeat (first | refine then_ret ?_ | refine inb_ret ?_))
      refine post_of ⟨rfl, rfl⟩ (by (repeat' (first | exact ResVs.nil | apply ResVs.cons | (apply ResV.tmp; first | exact (rfl : _ = AV.sc _) | exact (rfl : _ = AV.ag _) | exact (rfl : _ = AV.sl _ _) | exact (rfl : _ = AV.os _ _ _) | exact (rfl : _ = AV.fn _ _ _)) | (apply ResV.cells; rfl; apply Pick.mem; (repeat (first | exact Pick.here _ | apply Pick.there)); rfl; rfl; rfl; (first | rfl | simp only [ones, List.all_cons, List.all_nil, Bool.and_true, one_int, one_bool, one_str, one_ptr, one_slice, one_sl, one_os, *])) | (apply ResV.cell; rfl; apply Pick.mem; (repeat (first | exact Pick.here _ | apply Pick.there)); rfl; rfl; rfl)))) (by (repeat (first | exact Picks.nil _ | (apply Picks.cons; focus ((repeat (first | exact Pick.here _ | apply Pick.there)); (first | done | fail))))))
  · by_cases hyes : e = 0 ∧ ts.length = 1
    · obtain ⟨rfl, hl1⟩ := hyes
      obtain ⟨u, rfl⟩ : ∃ u, ts = [u] := by
        match ts, hl1 with
        | [u], _ => exact ⟨u, rfl⟩
      have h2 : ([u].map etk)[0]? = some (.ag [i64 u.kind, i64 u.n, str (bs u.s), i64 (u.b : Int), i64 (u.e : Int)]) := rfl
      have hlk := hlk u
      have hpe := Lex.tokens_done hr
      have hiff : rightB t.tok = (decide ((u.e : Int) - (u.b : Int) = (T.length : Int)) && likeB u t.tok) := by
        rw [Bool.eq_iff_iff, rightB_iff, ← hone, Bool.and_eq_true, decide_eq_true_eq, likeB_iff]
        refine ⟨fun ⟨v, h1, h2, h3⟩ => ?_, fun ⟨h1, h2⟩ => ⟨u, ?_, h2, h1⟩⟩
        · rw [hr] at h1
          injection h1 with h1 _
          injection h1 with h1 _
          subst h1
          exact ⟨h3, h2⟩
        · rw [hr]
          obtain ⟨rfl, _⟩ := hpe
          rfl
      rw [hiff]
      have hbe : u.b ≤ 100000 ∧ u.e ≤ 100000 := by
        obtain ⟨_, hl2, _, cs, hcut⟩ := hpe
        have := toks_in (Lex.cut_done hcut) u (List.mem_singleton_self u)
        omega
      cases hlb : likeB u t.tok with
      | false =>
        rw [hlb] at hlk
        rw [Bool.and_false]
        repeat (any_goals (first | refine s_at ?_ | refine s_skip ?_ | refine s_off ?_ | refine s_offn ?_ | refine s_move ?_ | refine s_assign ?_ | refine s_load ?_ | refine s_loade ?_ | refine s_loadd ?_ | refine s_pick1 ?_ | refine s_pick0 ?_ | refine s_pure ?_ | refine s_nil ?_ | refine aw_seq ?_ | refine aw_seqr ?_ | refine aw_block ?_ | refine aw_true ?_ | refine aw_false ?_ | refine s_alloc (fun _ => ?_) | refine s_allocd (fun _ => ?_) | refine s_box (fun _ => ?_) | refine s_box1 (fun _ => ?_) | refine s_store' ?_ | (refine s_cmp (fun h => ?_) (fun h => ?_) <;> try (exfalso; omega)) | refine s_call0 htx ?_ | refine s_call0 htk ?_ | refine s_call0 hlk ?_ | refine s_elem 0 h2 ?_ | refine s_draw [] ?_ | refine s_sub ?_))
        all_goals
          refine aw_ret ?_; (repeat (first | refine then_ret ?_ | refine inb_ret ?_))
          refine post_of ⟨rfl, rfl⟩ (by (repeat' (first | exact ResVs.nil | apply ResVs.cons | (apply ResV.tmp; first | exact (rfl : _ = AV.sc _) | exact (rfl : _ = AV.ag _) | exact (rfl : _ = AV.sl _ _) | exact (rfl : _ = AV.os _ _ _) | exact (rfl : _ = AV.fn _ _ _)) | (apply ResV.cells; rfl; apply Pick.mem; (repeat (first | exact Pick.here _ | apply Pick.there)); rfl; rfl; rfl; (first | rfl | simp only [ones, List.all_cons, List.all_nil, Bool.and_true, one_int, one_bool, one_str, one_ptr, one_slice, one_sl, one_os, *])) | (apply ResV.cell; rfl; apply Pick.mem; (repeat (first | exact Pick.here _ | apply Pick.there)); rfl; rfl; rfl)))) (by (repeat (first | exact Picks.nil _ | (apply Picks.cons; focus ((repeat (first | exact Pick.here _ | apply Pick.there)); (first | done | fail))))))
      | true =>
        rw [hlb] at hlk
        rw [Bool.and_true]
        repeat (any_goals (first | refine s_at ?_ | refine s_skip ?_ | refine s_off ?_ | refine s_offn ?_ | refine s_move ?_ | refine s_assign ?_ | refine s_load ?_ | refine s_loade ?_ | refine s_loadd ?_ | refine s_pick1 ?_ | refine s_pick0 ?_ | refine s_pure ?_ | refine s_nil ?_ | refine aw_seq ?_ | refine aw_seqr ?_ | refine aw_block ?_ | refine aw_true ?_ | refine aw_false ?_ | refine s_alloc (fun _ => ?_) | refine s_allocd (fun _ => ?_) | refine s_box (fun _ => ?_) | refine s_box1 (fun _ => ?_) | refine s_store' ?_ | (refine s_cmp (fun h => ?_) (fun h => ?_) <;> try (exfalso; omega)) | refine s_call0 htx ?_ | refine s_call0 htk ?_ | refine s_call0 hlk ?_ | refine s_elem 0 h2 ?_ | refine s_draw [] ?_ | refine s_sub ?_))
        all_goals
          refine aw_ret ?_; (repeat (first | refine then_ret ?_ | refine inb_ret ?_))
          refine post_of ⟨ret_boo ?_, rfl⟩ (by (repeat' (first | exact ResVs.nil | apply ResVs.cons | (apply ResV.tmp; first | exact (rfl : _ = AV.sc _) | exact (rfl : _ = AV.ag _) | exact (rfl : _ = AV.sl _ _) | exact (rfl : _ = AV.os _ _ _) | exact (rfl : _ = AV.fn _ _ _)) | (apply ResV.cells; rfl; apply Pick.mem; (repeat (first | exact Pick.here _ | apply Pick.there)); rfl; rfl; rfl; (first | rfl | simp only [ones, List.all_cons, List.all_nil, Bool.and_true, one_int, one_bool, one_str, one_ptr, one_slice, one_sl, one_os, *])) | (apply ResV.cell; rfl; apply Pick.mem; (repeat (first | exact Pick.here _ | apply Pick.there)); rfl; rfl; rfl)))) (by (repeat (first | exact Picks.nil _ | (apply Picks.cons; focus ((repeat (first | exact Pick.here _ | apply Pick.there)); (first | done | fail))))))
          first | exact (decide_eq_true (by omega)).symm | exact (decide_eq_false (by omega)).symm
    · have hnr : rightB t.tok = false := hno (fun h => by
        obtain ⟨v, h1, _⟩ := hone.2 h
        rw [hr] at h1
        injection h1 with h1 h2
        injection h2 with h2 h3
        exact hyes ⟨h3, by rw [h1]; rfl⟩)
      rw [hnr]
      repeat (any_goals (first | refine s_at ?_ | refine s_skip ?_ | refine s_off ?_ | refine s_offn ?_ | refine s_move ?_ | refine s_assign ?_ | refine s_load ?_ | refine s_loade ?_ | refine s_loadd ?_ | refine s_pick1 ?_ | refine s_pick0 ?_ | refine s_pure ?_ | refine s_nil ?_ | refine aw_seq ?_ | refine aw_seqr ?_ | refine aw_block ?_ | refine aw_true ?_ | refine aw_false ?_ | refine s_alloc (fun _ => ?_) | refine s_allocd (fun _ => ?_) | refine s_box (fun _ => ?_) | refine s_box1 (fun _ => ?_) | refine s_store' ?_ | (refine s_cmp (fun h => ?_) (fun h => ?_) <;> try (exfalso; omega)) | refine s_call0 htx ?_ | refine s_call0 htk ?_ | refine s_draw [] ?_ | refine s_sub ?_))
      all_goals
        refine aw_ret ?_; (repeat (first | refine then_ret ?_ | refine inb_ret ?_))
        refine post_of ⟨rfl, rfl⟩ (by (repeat' (first | exact ResVs.nil | apply ResVs.cons | (apply ResV.tmp; first | exact (rfl : _ = AV.sc _) | exact (rfl : _ = AV.ag _) | exact (rfl : _ = AV.sl _ _) | exact (rfl : _ = AV.os _ _ _) | exact (rfl : _ = AV.fn _ _ _)) | (apply ResV.cells; rfl; apply Pick.mem; (repeat (first | exact Pick.here _ | apply Pick.there)); rfl; rfl; rfl; (first | rfl | simp only [ones, List.all_cons, List.all_nil, Bool.and_true, one_int, one_bool, one_str, one_ptr, one_slice, one_sl, one_os, *])) | (apply ResV.cell; rfl; apply Pick.mem; (repeat (first | exact Pick.here _ | apply Pick.there)); rfl; rfl; rfl)))) (by (repeat (first | exact Picks.nil _ | (apply Picks.cons; focus ((repeat (first | exact Pick.here _ | apply Pick.there)); (first | done | fail))))))
end
end Go.Proofs.YtglgppkjgodlkaaGreatDoor.J
