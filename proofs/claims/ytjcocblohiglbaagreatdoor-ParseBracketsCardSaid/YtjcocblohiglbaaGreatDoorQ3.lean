/- The law ParseBrackets: its walk, and entered from a world. Conditions: none. -/
import Derived.Test.YtjcocblohiglbaaGreatDoorQ2
import Derived.Test.YtjcocblohiglbaaGreatDoorQ1
namespace Go.Proofs.YtjcocblohiglbaaGreatDoor
open Go.Dp Go.RowKit
set_option linter.unusedVariables false
set_option linter.unusedSimpArgs false
/-- What the law asks of two readings of an expression. -/
def brkE (r s : Rd3) : Prop := r.e = 0 → s.e = 0 ∧ same r.n s.n = true
/-- The same of a behaviour. -/
def brkB (z : Int) (r s : Rd3) : Prop := r.e = 0 → s.e = 0 ∧ same r.n s.n = true ∧ s.n.b = 0 ∧ s.n.e = z + 4
theorem brkE_of {ops : List Mx} {tx : ByteArray} (hs : tx.size ≤ 10000) : brkE (givenP lxP pExpr kdP ops tx) (givenP lxP pExpr kdP ops (brk tx)) := by
  intro h
  cases hr : givenP lxP pExpr kdP ops tx with
  | mk n a e =>
    rw [hr] at h
    obtain rfl : e = 0 := h
    obtain ⟨m, h1, h2⟩ := expr_brk hs hr
    rw [h1]
    exact ⟨rfl, h2⟩
theorem brkB_of {ops : List Mx} {tx : ByteArray} (hs : tx.size ≤ 10000) : brkB tx.size (givenP lxP pBehaviour kdP ops tx) (givenP lxP pBehaviour kdP ops (brk tx)) := by
  intro h
  cases hr : givenP lxP pBehaviour kdP ops tx with
  | mk n a e =>
    rw [hr] at h
    obtain rfl : e = 0 := h
    obtain ⟨m, h1, h2⟩ := beh_brk hs hr
    rw [h1]
    exact ⟨rfl, h2⟩
set_option maxRecDepth 20000 in set_option maxHeartbeats 4000000 in
theorem law_brackets (tx : ByteArray) (ops : List Mx) (hl : ops.length ≤ 9223372036854775807) (hz : tx.size ≤ 140737488351232) : Sim Tryz.prog GL 4 [str tx, .sl 5 (ops.map emix)] [] (fun o τ => o = .ret (boo true) ∧ τ = []) := by
  have gs := sim_sane
  have gh := sim_short GL ops [tx] hl (show 1 ≤ 1000 by decide)
  cases hb : shortB ops [tx] with
  | false =>
    rw [hb] at gh
    refine sim_body Tryz.func4 rfl rfl rfl ?_
    repeat (any_goals (first | refine s_at ?_ | refine s_skip ?_ | refine s_off ?_ | refine s_offn ?_ | refine s_move ?_ | refine s_assign ?_ | refine s_load ?_ | refine s_loade ?_ | refine s_loadd ?_ | refine s_pick1 ?_ | refine s_pick0 ?_ | refine s_pure ?_ | refine s_nil ?_ | refine aw_seq ?_ | refine aw_seqr ?_ | refine aw_block ?_ | refine aw_true ?_ | refine aw_false ?_ | refine s_alloc (fun _ => ?_) | refine s_allocd (fun _ => ?_) | refine s_box (fun _ => ?_) | refine s_box1 (fun _ => ?_) | refine s_store' ?_ | refine s_call0 gs ?_ | refine s_call0 gh ?_ | refine s_litq ?_))
    refine aw_ret ?_; (repeat (first | refine then_ret ?_ | refine inb_ret ?_))
    exact post_of ⟨rfl, rfl⟩ rvs pks
  | true =>
    rw [hb] at gh
    obtain ⟨hO, hsz⟩ := short_ops hb
    have hsz := hsz tx (List.mem_singleton.2 rfl)
    have z4 := brk_size tx
    have g1 := sim_ExprG tx ops hz hO
    have g2 := sim_ExprG (brk tx) ops (by omega) hO
    have g3 := sim_BehaviourG tx ops hz hO
    have g4 := sim_BehaviourG (brk tx) ops (by omega) hO
    have f1 := brkE_of (ops := ops) (tx := tx) (by omega)
    have f2 := brkB_of (ops := ops) (tx := tx) (by omega)
    have c1 := read_cnt lxP pExpr kdP ops tx
    have c2 := read_cnt lxP pExpr kdP ops (brk tx)
    have c3 := read_cnt lxP pBehaviour kdP ops tx
    have c4 := read_cnt lxP pBehaviour kdP ops (brk tx)
    generalize givenP lxP pExpr kdP ops tx = r1 at g1 f1 c1
    generalize givenP lxP pExpr kdP ops (brk tx) = r2 at g2 f1 c2
    generalize givenP lxP pBehaviour kdP ops tx = r3 at g3 f2 c3
    generalize givenP lxP pBehaviour kdP ops (brk tx) = r4 at g4 f2 c4
    obtain ⟨n1, a1, e1⟩ := r1
    obtain ⟨n2, a2, e2⟩ := r2
    obtain ⟨n3, a3, e3⟩ := r3
    obtain ⟨n4, a4, e4⟩ := r4
    unfold brkE at f1
    unfold brkB at f2
    unfold enR at g1 g2 g3 g4
    unfold brk at g2 g4
    dsimp only at g1 g2 g3 g4 f1 f2 c1 c2 c3 c4
    have s1 := sim_same GL _ n1 n2 (Nat.le_refl _) (by omega) (by omega)
    have s2 := sim_same GL _ n3 n4 (Nat.le_refl _) (by omega) (by omega)
    rw [enc_ag, enc_ag n2] at s1
    rw [enc_ag, enc_ag n4] at s2
    rw [enc_ag] at g1 g2 g3 g4
    have q1 : (⟨#[40, 32]⟩ : ByteArray).size + tx.size ≤ 9223372036854775807 := by show 2 + tx.size ≤ _; omega
    have q2 : ((⟨#[40, 32]⟩ : ByteArray) ++ tx).size + (⟨#[32, 41]⟩ : ByteArray).size ≤ 9223372036854775807 := by rw [ByteArray.size_append]; show 2 + tx.size + 2 ≤ _; omega
    clear hb hO hsz z4 c1 c2 c3 c4 hl
    by_cases h1 : e1 = 0
    · obtain ⟨k1, k2⟩ := f1 h1
      clear f1
      subst h1 k1
      rw [k2] at s1
      by_cases h3 : e3 = 0
      · obtain ⟨k3, k4, f3, f4⟩ := f2 h3
        clear f2
        subst h3 k3
        rw [k4] at s2
        refine sim_body Tryz.func4 rfl rfl rfl ?_
        repeat (any_goals (first | refine s_at ?_ | refine s_skip ?_ | refine s_off ?_ | refine s_offn ?_ | refine s_move ?_ | refine s_assign ?_ | refine s_load ?_ | refine s_loade ?_ | refine s_loadd ?_ | refine s_pick1 ?_ | refine s_pick0 ?_ | refine s_pure ?_ | refine s_nil ?_ | refine aw_seq ?_ | refine aw_seqr ?_ | refine aw_block ?_ | refine aw_true ?_ | refine aw_false ?_ | refine s_alloc (fun _ => ?_) | refine s_allocd (fun _ => ?_) | refine s_box (fun _ => ?_) | refine s_box1 (fun _ => ?_) | refine s_store' ?_ | refine s_call0 gs ?_ | refine s_call0 gh ?_ | refine s_litq ?_ | refine s_call0 g1 ?_ | refine s_call0 g2 ?_ | refine s_call0 g3 ?_ | refine s_call0 g4 ?_ | refine s_call0 s1 ?_ | refine s_call0 s2 ?_ | refine s_concat q1 ?_ | refine s_concat q2 ?_ | (refine s_cmp (fun h => ?_) (fun h => ?_) <;> try (exfalso; first | omega | exact h rfl)) | refine s_add ?_))
        refine aw_ret ?_; (repeat (first | refine then_ret ?_ | refine inb_ret ?_))
        exact post_of ⟨rfl, rfl⟩ rvs pks
      · clear f2
        refine sim_body Tryz.func4 rfl rfl rfl ?_
        repeat (any_goals (first | refine s_at ?_ | refine s_skip ?_ | refine s_off ?_ | refine s_offn ?_ | refine s_move ?_ | refine s_assign ?_ | refine s_load ?_ | refine s_loade ?_ | refine s_loadd ?_ | refine s_pick1 ?_ | refine s_pick0 ?_ | refine s_pure ?_ | refine s_nil ?_ | refine aw_seq ?_ | refine aw_seqr ?_ | refine aw_block ?_ | refine aw_true ?_ | refine aw_false ?_ | refine s_alloc (fun _ => ?_) | refine s_allocd (fun _ => ?_) | refine s_box (fun _ => ?_) | refine s_box1 (fun _ => ?_) | refine s_store' ?_ | refine s_call0 gs ?_ | refine s_call0 gh ?_ | refine s_litq ?_ | refine s_call0 g1 ?_ | refine s_call0 g2 ?_ | refine s_call0 g3 ?_ | refine s_call0 g4 ?_ | refine s_call0 s1 ?_ | refine s_concat q1 ?_ | refine s_concat q2 ?_ | (refine s_cmp (fun h => ?_) (fun h => ?_) <;> try (exfalso; first | omega | exact h rfl | exact h h3))))
        refine aw_ret ?_; (repeat (first | refine then_ret ?_ | refine inb_ret ?_))
        exact post_of ⟨rfl, rfl⟩ rvs pks
    · clear f1
      by_cases h3 : e3 = 0
      · obtain ⟨k3, k4, f3, f4⟩ := f2 h3
        clear f2
        subst h3 k3
        rw [k4] at s2
        refine sim_body Tryz.func4 rfl rfl rfl ?_
        repeat (any_goals (first | refine s_at ?_ | refine s_skip ?_ | refine s_off ?_ | refine s_offn ?_ | refine s_move ?_ | refine s_assign ?_ | refine s_load ?_ | refine s_loade ?_ | refine s_loadd ?_ | refine s_pick1 ?_ | refine s_pick0 ?_ | refine s_pure ?_ | refine s_nil ?_ | refine aw_seq ?_ | refine aw_seqr ?_ | refine aw_block ?_ | refine aw_true ?_ | refine aw_false ?_ | refine s_alloc (fun _ => ?_) | refine s_allocd (fun _ => ?_) | refine s_box (fun _ => ?_) | refine s_box1 (fun _ => ?_) | refine s_store' ?_ | refine s_call0 gs ?_ | refine s_call0 gh ?_ | refine s_litq ?_ | refine s_call0 g1 ?_ | refine s_call0 g2 ?_ | refine s_call0 g3 ?_ | refine s_call0 g4 ?_ | refine s_call0 s2 ?_ | refine s_concat q1 ?_ | refine s_concat q2 ?_ | (refine s_cmp (fun h => ?_) (fun h => ?_) <;> try (exfalso; first | omega | exact h rfl | exact h1 h)) | refine s_add ?_))
        refine aw_ret ?_; (repeat (first | refine then_ret ?_ | refine inb_ret ?_))
        exact post_of ⟨rfl, rfl⟩ rvs pks
      · clear f2
        refine sim_body Tryz.func4 rfl rfl rfl ?_
        repeat (any_goals (first | refine s_at ?_ | refine s_skip ?_ | refine s_off ?_ | refine s_offn ?_ | refine s_move ?_ | refine s_assign ?_ | refine s_load ?_ | refine s_loade ?_ | refine s_loadd ?_ | refine s_pick1 ?_ | refine s_pick0 ?_ | refine s_pure ?_ | refine s_nil ?_ | refine aw_seq ?_ | refine aw_seqr ?_ | refine aw_block ?_ | refine aw_true ?_ | refine aw_false ?_ | refine s_alloc (fun _ => ?_) | refine s_allocd (fun _ => ?_) | refine s_box (fun _ => ?_) | refine s_box1 (fun _ => ?_) | refine s_store' ?_ | refine s_call0 gs ?_ | refine s_call0 gh ?_ | refine s_litq ?_ | refine s_call0 g1 ?_ | refine s_call0 g2 ?_ | refine s_call0 g3 ?_ | refine s_call0 g4 ?_ | refine s_concat q1 ?_ | refine s_concat q2 ?_ | (refine s_cmp (fun h => ?_) (fun h => ?_) <;> try (exfalso; first | omega | exact h rfl | exact h1 h | exact h h3))))
        refine aw_ret ?_; (repeat (first | refine then_ret ?_ | refine inb_ret ?_))
        exact post_of ⟨rfl, rfl⟩ rvs pks
theorem walk_ParseBrackets (tx : ByteArray) (A : Option Addr) (len cap : Nat) (ops : List Mx) (w : World) (hz : tx.size ≤ 140737488351232) (hl : ops.length ≤ 9223372036854775807) (hv : VR (stay (lies w)) w (.slice A len cap) (.sl 5 (ops.map emix))) (hG : GL w) :
    Calls Tryz.prog 4 #[.string tx, .slice A len cap] w fun e w' => e = .returned (.bool true) ∧ Below w.heap.size w w' := by
  refine (Sim.enter (law_brackets tx ops hl hz) hG (lies w) (fun b o h => h) (vs := [.string tx, .slice A len cap]) (VRs.cons (.sc _) (VRs.cons hv (VRs.nil _ _)))).mono ?_
  rintro e w' ⟨hB, g', σ', o, ho, rfl, rfl⟩
  refine ⟨?_, hB⟩
  cases e with
  | returned v => rw [show v = .bool true from VR.bool ho]
  | panicked c => exact ho.elim
  | outgrown => exact ho.elim
end Go.Proofs.YtjcocblohiglbaaGreatDoor
