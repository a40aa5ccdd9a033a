/- The law ParseSides: its loop, its walk, and entered from a world. Conditions: none. -/
import Derived.Test.YtjcocblohiglbaaGreatDoorQ5
namespace Go.Proofs.YtjcocblohiglbaaGreatDoor
open Go.Dp Go.RowKit
set_option linter.unusedVariables false
set_option linter.unusedSimpArgs false
set_option maxRecDepth 20000 in set_option maxHeartbeats 4000000 in
theorem sides_loop (prio side lower : Int) (X : ByteArray) (m : Nat) (hm : m ≤ 60) (k0 n0 : Int) (s0 : ByteArray) (L0 : List AV) (b0 e0 at_ er : Int) (b13 b16 : Nat)
    (hmid : AW Tryz.prog GL Tryz.f6.ntmps (sndC (sndC (sndC (sndC (sndC (sndC (sndC (sndC (sndC (sndC (bodyC Tryz.f6))))))))))) (Post Tryz.prog Tryz.f6 (fun o τ => o = .ret (boo true) ∧ τ = []))
      [(0, i64 (m : Int)), (2, i64 side), (11, .sl 5 ((opsS prio side lower).map emix)), (12, str X), (13, ptr b13), (14, i64 at_), (15, i64 er), (16, ptr b16)] [.box b13 (nd k0 n0 s0 (.sl 6 L0) b0 e0) 27, .box b16 (enN (wantS side m)) 27]) :
    AW Tryz.prog GL Tryz.f6.ntmps (sndC (sndC (sndC (sndC (sndC (sndC (sndC (sndC (sndC (bodyC Tryz.f6)))))))))) (Post Tryz.prog Tryz.f6 (fun o τ => o = .ret (boo true) ∧ τ = []))
      [(0, i64 (m : Int)), (2, i64 side), (11, .sl 5 ((opsS prio side lower).map emix)), (12, str X), (13, ptr b13), (14, i64 at_), (15, i64 er), (16, ptr b16)] [.box b13 (nd k0 n0 s0 (.sl 6 L0) b0 e0) 27, .box b16 (nd 50 0 ⟨#[97]⟩ (.sc (.slice none 0 0)) 0 0) 27] := by
  generalize (opsS prio side lower).map emix = O at hmid ⊢
  generalize Post Tryz.prog Tryz.f6 (fun o τ => o = .ret (boo true) ∧ τ = []) = Q at hmid ⊢
  show AW _ _ _ (Code.seq _ _) _ _ _
  repeat (any_goals (first | refine s_at ?_ | refine s_skip ?_ | refine s_off ?_ | refine s_offn ?_ | refine s_move ?_ | refine s_assign ?_ | refine s_load ?_ | refine s_loade ?_ | refine s_loadd ?_ | refine s_pick1 ?_ | refine s_pick0 ?_ | refine s_pure ?_ | refine s_nil ?_ | refine aw_seq ?_ | refine aw_seqr ?_ | refine aw_block ?_ | refine aw_true ?_ | refine aw_false ?_ | refine s_alloc (fun _ => ?_) | refine s_allocd (fun _ => ?_) | refine s_box (fun _ => ?_) | refine s_box1 (fun _ => ?_) | refine s_store' ?_))
  refine aw_loop (fun i : Nat => [(0, i64 (m : Int)), (2, i64 side), (11, .sl 5 O), (12, str X), (13, ptr b13), (14, i64 at_), (15, i64 er), (16, ptr b16), (71, i64 (m : Int)), (72, i64 (i : Int))])
    (fun i => [.box b13 (nd k0 n0 s0 (.sl 6 L0) b0 e0) 27, .box b16 (enN (wantS side i)) 27]) (fun i => i ≤ m) (fun i => m - i) 0 (Nat.zero_le _) els _ (Picks.perm pks) ?_
  intro i i1
  try dsimp only at i1
  by_cases hi : i < m
  · clear hmid
    obtain ⟨s, L, hE, hL⟩ := enN_want side i
    have hW : enN (wantS side (i + 1)) = if side = 2 then nd 50 0 ⟨#[95, 43, 95]⟩ (.sl 6 [.ag (nd 50 0 ⟨#[97]⟩ (.sc (.slice none 0 0)) 0 0), .ag (nd 50 0 s L 0 0)]) 0 0 else nd 50 0 ⟨#[95, 43, 95]⟩ (.sl 6 [.ag (nd 50 0 s L 0 0), .ag (nd 50 0 ⟨#[97]⟩ (.sc (.slice none 0 0)) 0 0)]) 0 0 := by
      rw [wantS]
      split
      · rw [enN, enNl, enNs, enNs, hE]; rfl
      · rw [enN, enNl, enNs, enNs, hE]; rfl
    rw [hE]
    by_cases h2 : side = 2
    · rw [if_pos h2] at hW
      rcases hL with rfl | ⟨R, rfl⟩ <;>
      · repeat (any_goals (first | refine s_at ?_ | refine s_skip ?_ | refine s_off ?_ | refine s_offn ?_ | refine s_move ?_ | refine s_assign ?_ | refine s_load ?_ | refine s_loade ?_ | refine s_loadd ?_ | refine s_pick1 ?_ | refine s_pick0 ?_ | refine s_pure ?_ | refine s_nil ?_ | refine aw_seq ?_ | refine aw_seqr ?_ | refine aw_block ?_ | refine aw_true ?_ | refine aw_false ?_ | refine s_alloc (fun _ => ?_) | refine s_allocd (fun _ => ?_) | refine s_box (fun _ => ?_) | refine s_box1 (fun _ => ?_) | refine s_store' ?_ | refine s_call0 (sim_app0 GL _) ?_ | refine s_call0 (sim_app GL _ _) ?_ | refine s_litq ?_ | refine s_drawn 5 [4] ?_ | (refine s_cmp (fun h => ?_) (fun h => ?_) <;> try (exfalso; first | omega | exact h h2)) | refine s_add ?_))
        refine d_end fun env' he => ?_
        (repeat (first | refine inb_nor ?_ | refine then_nor ?_))
        refine ⟨i + 1, [], by omega, by omega, EnvLe.of_eq he els, ?_⟩
        rw [hW]
        exact Picks.perm pks
    · rw [if_neg h2] at hW
      rcases hL with rfl | ⟨R, rfl⟩ <;>
      · repeat (any_goals (first | refine s_at ?_ | refine s_skip ?_ | refine s_off ?_ | refine s_offn ?_ | refine s_move ?_ | refine s_assign ?_ | refine s_load ?_ | refine s_loade ?_ | refine s_loadd ?_ | refine s_pick1 ?_ | refine s_pick0 ?_ | refine s_pure ?_ | refine s_nil ?_ | refine aw_seq ?_ | refine aw_seqr ?_ | refine aw_block ?_ | refine aw_true ?_ | refine aw_false ?_ | refine s_alloc (fun _ => ?_) | refine s_allocd (fun _ => ?_) | refine s_box (fun _ => ?_) | refine s_box1 (fun _ => ?_) | refine s_store' ?_ | refine s_call0 (sim_app0 GL _) ?_ | refine s_call0 (sim_app GL _ _) ?_ | refine s_litq ?_ | refine s_drawn 5 [4] ?_ | (refine s_cmp (fun h => ?_) (fun h => ?_) <;> try (exfalso; first | omega | exact h2 h)) | refine s_add ?_))
        refine d_end fun env' he => ?_
        (repeat (first | refine inb_nor ?_ | refine then_nor ?_))
        refine ⟨i + 1, [], by omega, by omega, EnvLe.of_eq he els, ?_⟩
        rw [hW]
        exact Picks.perm pks
  · obtain rfl : i = m := by omega
    repeat (any_goals (first | refine s_at ?_ | refine s_skip ?_ | refine s_off ?_ | refine s_offn ?_ | refine s_move ?_ | refine s_assign ?_ | refine s_load ?_ | refine s_loade ?_ | refine s_loadd ?_ | refine s_pick1 ?_ | refine s_pick0 ?_ | refine s_pure ?_ | refine s_nil ?_ | refine aw_seq ?_ | refine aw_seqr ?_ | refine aw_block ?_ | refine aw_true ?_ | refine aw_false ?_ | refine s_alloc (fun _ => ?_) | refine s_allocd (fun _ => ?_) | refine s_box (fun _ => ?_) | refine s_box1 (fun _ => ?_) | refine s_store' ?_ | (refine s_cmp (fun h => ?_) (fun h => ?_) <;> try (exfalso; omega))))
    refine aw_exit ?_; (repeat refine then_exit ?_); refine inb_exit ?_; refine then_nor ?_
    exact aw_to hmid els pks
set_option maxRecDepth 20000 in set_option maxHeartbeats 4000000 in
theorem law_sides (many prio side lower : Int) : Sim Tryz.prog GL 6 [i64 many, i64 prio, i64 side, i64 lower] [] (fun o τ => o = .ret (boo true) ∧ τ = []) := by
  have gs := sim_sane
  by_cases hin : (1 ≤ many ∧ many ≤ 60) ∧ (1 ≤ prio ∧ prio ≤ 9) ∧ (0 ≤ side ∧ side ≤ 2) ∧ (1 ≤ lower ∧ lower < prio)
  · obtain ⟨hm, hp, hs, hl⟩ := hin
    obtain ⟨m, rfl⟩ : ∃ m : Nat, many = m := ⟨many.toNat, by omega⟩
    have gR := sim_Repeat m (by omega) (by omega)
    have hX : ((⟨#[97]⟩ : ByteArray) ++ repS m).size ≤ 1000 := by rw [text_eq, text_size]; omega
    have hXz : (⟨#[97]⟩ : ByteArray).size + (repS m).size ≤ 9223372036854775807 := by rw [ByteArray.size_append] at hX; omega
    have g1 := sim_ExprG (textS m) (opsS prio side lower) (by rw [text_size]; omega) opsS_ok
    have hz2 : ∀ j, j ≤ 60 → (twice j).size ≤ 140737488351232 := fun j hj => by
      rw [twice, ByteArray.size_append, ByteArray.size_append, text_size]
      show 4 * j + 1 + 3 + (4 * j + 1) ≤ _
      omega
    have g2 := sim_ExprG (twice m) (opsS prio side lower) (hz2 m (by omega)) opsS_ok
    have g3 := sim_ExprG (twice 1) (opsS prio side lower) (hz2 1 (by omega)) opsS_ok
    have c1 := read_cnt lxP pExpr kdP (opsS prio side lower) (textS m)
    have c2 := read_cnt lxP pExpr kdP (opsS prio side lower) (twice m)
    have c3 := read_cnt lxP pExpr kdP (opsS prio side lower) (twice 1)
    have e1 : ¬ (side = 0 ∧ 1 < m) → (givenP lxP pExpr kdP (opsS prio side lower) (textS m)).e = 0 ∧ same (givenP lxP pExpr kdP (opsS prio side lower) (textS m)).n (wantS side m) = true ∧ (givenP lxP pExpr kdP (opsS prio side lower) (twice m)).e = 0 ∧ (givenP lxP pExpr kdP (opsS prio side lower) (twice m)).at_ = 0 ∧ same (givenP lxP pExpr kdP (opsS prio side lower) (twice m)).n (.mk 50 0 ⟨#[95, 35, 95]⟩ [wantS side m, wantS side m] 0 0) = true := fun h => by
      obtain ⟨n, h1, h2⟩ := sides_one hp hs hl m (by omega) (by omega)
      obtain ⟨n', h3, h4⟩ := sides_two hp hs hl m (by omega) (by omega)
      rw [h1, h3]
      exact ⟨rfl, h2, rfl, rfl, h4⟩
    have e2 : side = 0 ∧ 1 < m → (givenP lxP pExpr kdP (opsS prio side lower) (textS m)).e = 22 ∧ (givenP lxP pExpr kdP (opsS prio side lower) (textS m)).at_ = 6 := fun h => by
      obtain ⟨n, h1⟩ := sides_none hp hs hl m (by omega) h.1 h.2
      rw [h1]
      exact ⟨rfl, rfl⟩
    have e3 : side = 0 → (givenP lxP pExpr kdP (opsS prio side lower) (twice 1)).e = 0 ∧ (givenP lxP pExpr kdP (opsS prio side lower) (twice 1)).at_ = 0 ∧ same (givenP lxP pExpr kdP (opsS prio side lower) (twice 1)).n (.mk 50 0 ⟨#[95, 35, 95]⟩ [wantS side 1, wantS side 1] 0 0) = true := fun h => by
      obtain ⟨n', h3, h4⟩ := sides_two hp hs hl 1 (by omega) (by omega)
      rw [h3]
      exact ⟨rfl, rfl, h4⟩
    generalize givenP lxP pExpr kdP (opsS prio side lower) (textS m) = r1 at g1 e1 e2 c1
    generalize givenP lxP pExpr kdP (opsS prio side lower) (twice m) = r2 at g2 e1 c2
    generalize givenP lxP pExpr kdP (opsS prio side lower) (twice 1) = r3 at g3 e3 c3
    rw [twice, ← text_eq] at g2
    rw [← text_eq] at g1
    have g3' : Sim Tryz.prog GL 11 [str (((⟨#[97, 32, 43, 32, 97]⟩ : ByteArray) ++ ⟨#[32, 35, 32]⟩) ++ ⟨#[97, 32, 43, 32, 97]⟩), .sl 5 ((opsS prio side lower).map emix)] [] (fun o τ => o = .ret (enR r3) ∧ τ = []) := g3
    have hmid := fun b13 b16 => sides_mid prio side lower _ hX m (by omega) (by omega) r1 r2 r3 b13 b16 e1 e2 e3 g2 g3' c1 c2 c3
    have hloop := fun b13 b16 => sides_loop prio side lower ((⟨#[97]⟩ : ByteArray) ++ repS m) m (by omega) r1.n.kind r1.n.n r1.n.s (encs r1.n.l) r1.n.b r1.n.e r1.at_ r1.e b13 b16 (hmid b13 b16)
    clear hmid g2 g3 g3' e1 e2 e3 c1 c2 c3 hz2 hX
    unfold enR at g1
    rw [enc_ag] at g1
    refine sim_body Tryz.func6 rfl rfl rfl ?_
    repeat (any_goals (first | exact aw_to (hloop _ _) els pks | refine s_at ?_ | refine s_skip ?_ | refine s_off ?_ | refine s_offn ?_ | refine s_move ?_ | refine s_assign ?_ | refine s_load ?_ | refine s_loade ?_ | refine s_loadd ?_ | refine s_pick1 ?_ | refine s_pick0 ?_ | refine s_pure ?_ | refine s_nil ?_ | refine aw_seq ?_ | refine aw_seqr ?_ | refine aw_block ?_ | refine aw_true ?_ | refine aw_false ?_ | refine s_alloc (fun _ => ?_) | refine s_allocd (fun _ => ?_) | refine s_box (fun _ => ?_) | refine s_box1 (fun _ => ?_) | refine s_store' ?_ | refine s_call0 gs ?_ | refine s_call0 gR ?_ | refine s_call0 g1 ?_ | refine s_call0 (sim_app0 GL _) ?_ | refine s_litq ?_ | refine s_concat hXz ?_ | (refine s_cmp (fun h => ?_) (fun h => ?_) <;> try (exfalso; omega))))
    done
  · refine sim_body Tryz.func6 rfl rfl rfl ?_
    repeat (any_goals (first | refine s_at ?_ | refine s_skip ?_ | refine s_off ?_ | refine s_offn ?_ | refine s_move ?_ | refine s_assign ?_ | refine s_load ?_ | refine s_loade ?_ | refine s_loadd ?_ | refine s_pick1 ?_ | refine s_pick0 ?_ | refine s_pure ?_ | refine s_nil ?_ | refine aw_seq ?_ | refine aw_seqr ?_ | refine aw_block ?_ | refine aw_true ?_ | refine aw_false ?_ | refine s_alloc (fun _ => ?_) | refine s_allocd (fun _ => ?_) | refine s_box (fun _ => ?_) | refine s_box1 (fun _ => ?_) | refine s_store' ?_ | refine s_call0 gs ?_ | (refine s_cmp (fun h => ?_) (fun h => ?_) <;> try (exfalso; omega))))
    all_goals
      refine aw_ret ?_; (repeat (first | refine then_ret ?_ | refine inb_ret ?_))
      exact post_of ⟨rfl, rfl⟩ rvs pks
theorem walk_ParseSides (many prio side lower : Int) (w : World) (h1 : -9223372036854775808 ≤ many ∧ many ≤ 9223372036854775807) (h2 : -9223372036854775808 ≤ prio ∧ prio ≤ 9223372036854775807) (h3 : -9223372036854775808 ≤ side ∧ side ≤ 9223372036854775807) (h4 : -9223372036854775808 ≤ lower ∧ lower ≤ 9223372036854775807) (hG : GL w) :
    Calls Tryz.prog 6 #[.int .i64 many, .int .i64 prio, .int .i64 side, .int .i64 lower] w fun e w' => e = .returned (.bool true) ∧ Below w.heap.size w w' := by
  refine (Sim.enter (law_sides many prio side lower) hG (lies w) (fun b o h => h) (vs := [.int .i64 many, .int .i64 prio, .int .i64 side, .int .i64 lower]) (VRs.cons (.sc _) (VRs.cons (.sc _) (VRs.cons (.sc _) (VRs.cons (.sc _) (VRs.nil _ _)))))).mono ?_
  rintro e w' ⟨hB, g', σ', o, ho, rfl, rfl⟩
  refine ⟨?_, hB⟩
  cases e with
  | returned v => rw [show v = .bool true from VR.bool ho]
  | panicked c => exact ho.elim
  | outgrown => exact ho.elim
end Go.Proofs.YtjcocblohiglbaaGreatDoor
