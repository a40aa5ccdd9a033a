/- The law ParsePlaces: its walk, and entered from a world. Conditions: none. -/
import Derived.Test.YtjcocblohiglbaaGreatDoorZ4
namespace Go.Proofs.YtjcocblohiglbaaGreatDoor
open Go.Dp Go.RowKit
set_option linter.unusedVariables false
set_option linter.unusedSimpArgs false
mutual
theorem same_self : ∀ (x : Nd), same x x = true
  | .mk k n s l b e => by rw [same, sames_self l]; simp
theorem sames_self : ∀ (l : List Nd), sames l l = true
  | [] => by rw [sames]
  | x :: l => by rw [sames, same_self x, sames_self l]; rfl
end
theorem wl_kid {AL : Nd → Prop} : ∀ {l : List Nd} {y : Nd}, y ∈ l → cnt y ≤ cnts l ∧ dep y ≤ deps l
  | x :: l, y, h => by
    rw [cnts, deps]
    rcases List.mem_cons.1 h with rfl | h
    · omega
    · have := wl_kid (AL := AL) h; omega
set_option maxRecDepth 20000 in set_option maxHeartbeats 4000000 in
theorem sim_walk {ops : List Mx} {tx : ByteArray} (hO : OpsOk ops) (hz : tx.size ≤ 10000) (b8 : Nat) : ∀ (m : Nat) (x : Nd) (lo hi : Int), cnt x ≤ m → cnt x ≤ 60000 → dep x ≤ 400 → wl (ALx ops tx) x → 0 ≤ lo → lo ≤ x.b → x.e ≤ hi → hi ≤ tx.size → WkS tx (ops.map emix) b8 x lo hi := by
  intro m
  induction m with
  | zero => intro x lo hi h; have := cnt_eq x; omega
  | succ m ih =>
    intro x lo hi hm hc hd hw h0 h1 h2 h3
    have e1 := cnt_eq x
    have e2 := dep_eq x
    have e3 := cnts_len x.l
    have hK := wl_k hw
    have hA := wl_al hw hc hd
    have hbe := hK.1
    have hkids := fun y (hy : y ∈ x.l) (hwy : wl (ALx ops tx) y) (hb : x.b ≤ y.b) (he : y.e ≤ x.e) => ih y x.b x.e (by have := (wl_kid (AL := ALx ops tx) hy).1; omega) (by have := (wl_kid (AL := ALx ops tx) hy).1; omega) (by have := (wl_kid (AL := ALx ops tx) hy).2; omega) hwy (by omega) hb he (by omega)
    have hloop := fun b6 b10 k0 n0 s0 L0 c0 e0 Q => walk_loop (AL := ALx ops tx) tx (ops.map emix) b8 b6 b10 x.kind x.n x.s x.l x.b x.e k0 n0 s0 L0 c0 e0 (by omega) hkids hK.2 Q (fun y hy => by have := (wl_kid (AL := ALx ops tx) hy).1; have := cnt_eq y; have := cnts_len y.l; omega)
    clear hkids ih hw hK
    by_cases k1 : 20 ≤ x.kind ∧ x.kind ≤ 33
    · obtain ⟨m', hg, hs⟩ := hA.1 k1
      have g1 := sim_BehaviourG (cutAt tx x) ops (by rw [cutAt, ByteArray.size_extract]; omega) hO
      have c1 := read_cnt lxP pBehaviour kdP ops (cutAt tx x)
      rw [hg] at g1 c1
      have s1 := sim_same GL _ x m' (Nat.le_refl _) (by omega) (by dsimp only at c1; omega)
      rw [hs] at s1
      unfold enR at g1
      dsimp only at g1
      unfold cutAt at g1
      unfold WkS
      rw [enc_ag] at g1 s1
      rw [enc_ag m'] at s1
      rw [enc_ag]
      clear hA hg hs c1 hO
      generalize ops.map emix = O at g1 hloop ⊢
      refine sim_body Tryz.func10 rfl rfl rfl ?_
      repeat (any_goals (first | refine aw_to (hloop _ _ _ _ _ _ _ _ _ ?_) els pks | refine s_at ?_ | refine s_skip ?_ | refine s_off ?_ | refine s_offn ?_ | refine s_move ?_ | refine s_assign ?_ | refine s_load ?_ | refine s_loade ?_ | refine s_loadd ?_ | refine s_pick1 ?_ | refine s_pick0 ?_ | refine s_pure ?_ | refine s_nil ?_ | refine aw_seq ?_ | refine aw_seqr ?_ | refine aw_block ?_ | refine aw_true ?_ | refine aw_false ?_ | refine s_alloc (fun _ => ?_) | refine s_allocd (fun _ => ?_) | refine s_box (fun _ => ?_) | refine s_box1 (fun _ => ?_) | refine s_store' ?_ | (refine s_cmp (fun h => ?_) (fun h => ?_) <;> try (exfalso; omega)) | refine s_cut x.b.toNat x.e.toNat ?_ | refine s_call0 g1 ?_ | refine s_call0 s1 ?_ | refine s_drawn 14 [12] ?_))
      all_goals
        refine aw_ret ?_; (repeat (first | refine then_ret ?_ | refine inb_ret ?_))
        exact post_of ⟨rfl, rfl⟩ rvs pks
    · by_cases k2 : x.kind = 50 ∨ x.kind = 51
      · obtain ⟨m', hg, hs⟩ := hA.2 k2
        have g1 := sim_ExprG (cutAt tx x) ops (by rw [cutAt, ByteArray.size_extract]; omega) hO
        have c1 := read_cnt lxP pExpr kdP ops (cutAt tx x)
        rw [hg] at g1 c1
        have s1 := sim_same GL _ x m' (Nat.le_refl _) (by omega) (by dsimp only at c1; omega)
        rw [hs] at s1
        unfold enR at g1
        dsimp only at g1
        unfold cutAt at g1
        unfold WkS
        rw [enc_ag] at g1 s1
        rw [enc_ag m'] at s1
        rw [enc_ag]
        clear hA hg hs c1 hO
        generalize ops.map emix = O at g1 hloop ⊢
        refine sim_body Tryz.func10 rfl rfl rfl ?_
        repeat (any_goals (first | refine aw_to (hloop _ _ _ _ _ _ _ _ _ ?_) els pks | refine s_at ?_ | refine s_skip ?_ | refine s_off ?_ | refine s_offn ?_ | refine s_move ?_ | refine s_assign ?_ | refine s_load ?_ | refine s_loade ?_ | refine s_loadd ?_ | refine s_pick1 ?_ | refine s_pick0 ?_ | refine s_pure ?_ | refine s_nil ?_ | refine aw_seq ?_ | refine aw_seqr ?_ | refine aw_block ?_ | refine aw_true ?_ | refine aw_false ?_ | refine s_alloc (fun _ => ?_) | refine s_allocd (fun _ => ?_) | refine s_box (fun _ => ?_) | refine s_box1 (fun _ => ?_) | refine s_store' ?_ | (refine s_cmp (fun h => ?_) (fun h => ?_) <;> try (exfalso; omega)) | refine s_cut x.b.toNat x.e.toNat ?_ | refine s_call0 g1 ?_ | refine s_call0 s1 ?_ | refine s_drawn 14 [12] ?_))
        all_goals
          refine aw_ret ?_; (repeat (first | refine then_ret ?_ | refine inb_ret ?_))
          exact post_of ⟨rfl, rfl⟩ rvs pks
      · have s1 := sim_same GL _ x x (Nat.le_refl _) (by omega) (by omega)
        rw [same_self] at s1
        unfold WkS
        rw [enc_ag] at s1 ⊢
        clear hA hO
        generalize ops.map emix = O at hloop ⊢
        refine sim_body Tryz.func10 rfl rfl rfl ?_
        repeat (any_goals (first | refine aw_to (hloop _ _ _ _ _ _ _ _ _ ?_) els pks | refine s_at ?_ | refine s_skip ?_ | refine s_off ?_ | refine s_offn ?_ | refine s_move ?_ | refine s_assign ?_ | refine s_load ?_ | refine s_loade ?_ | refine s_loadd ?_ | refine s_pick1 ?_ | refine s_pick0 ?_ | refine s_pure ?_ | refine s_nil ?_ | refine aw_seq ?_ | refine aw_seqr ?_ | refine aw_block ?_ | refine aw_true ?_ | refine aw_false ?_ | refine s_alloc (fun _ => ?_) | refine s_allocd (fun _ => ?_) | refine s_box (fun _ => ?_) | refine s_box1 (fun _ => ?_) | refine s_store' ?_ | (refine s_cmp (fun h => ?_) (fun h => ?_) <;> try (exfalso; omega)) | refine s_call0 s1 ?_))
        all_goals
          refine aw_ret ?_; (repeat (first | refine then_ret ?_ | refine inb_ret ?_))
          exact post_of ⟨rfl, rfl⟩ rvs pks
set_option maxRecDepth 20000 in set_option maxHeartbeats 4000000 in
theorem law_places (tx : ByteArray) (ops : List Mx) (hl : ops.length ≤ 9223372036854775807) (hz : tx.size ≤ 140737488351232) : Sim Tryz.prog GL 3 [str tx, .sl 5 (ops.map emix)] [] (fun o τ => o = .ret (boo true) ∧ τ = []) := by
  have gs := sim_sane
  have gh : Sim Tryz.prog GL 8 [.sl 5 (ops.map emix), .sc (.slice none 0 0)] [] (fun o τ => o = .ret (boo (shortB ops [])) ∧ τ = []) := (sim_short GL ops [] hl (by decide)).weak (.cons _ _ _ _ (.refl _) (.cons _ _ _ _ (.nil 1) .nil)) fun o σ h => ⟨o, h.1 ▸ .ret _ _ (.refl _), h⟩
  cases hb : shortB ops [] with
  | false =>
    rw [hb] at gh
    refine sim_body Tryz.func3 rfl rfl rfl ?_
    repeat (any_goals (first | refine s_at ?_ | refine s_skip ?_ | refine s_off ?_ | refine s_offn ?_ | refine s_move ?_ | refine s_assign ?_ | refine s_load ?_ | refine s_loade ?_ | refine s_loadd ?_ | refine s_pick1 ?_ | refine s_pick0 ?_ | refine s_pure ?_ | refine s_nil ?_ | refine aw_seq ?_ | refine aw_seqr ?_ | refine aw_block ?_ | refine aw_true ?_ | refine aw_false ?_ | refine s_alloc (fun _ => ?_) | refine s_allocd (fun _ => ?_) | refine s_box (fun _ => ?_) | refine s_box1 (fun _ => ?_) | refine s_store' ?_ | (refine s_cmp (fun h => ?_) (fun h => ?_) <;> try (exfalso; omega)) | refine s_call0 gs ?_ | refine s_call0 gh ?_ | refine s_litq ?_ | refine s_len ?_))
    all_goals
      refine aw_ret ?_; (repeat (first | refine then_ret ?_ | refine inb_ret ?_))
      exact post_of ⟨rfl, rfl⟩ rvs pks
  | true =>
    rw [hb] at gh
    obtain ⟨hO, -⟩ := short_ops hb
    by_cases h4 : tx.size ≤ 400
    · have g1 := sim_BehaviourG tx ops hz hO
      cases hg : givenP lxP pBehaviour kdP ops tx with
      | mk n pa e1 =>
        rw [hg] at g1
        unfold enR at g1
        dsimp only at g1
        by_cases he : e1 = 0
        · subst he
          obtain ⟨w1, w2, w3, w4, w5⟩ := places_ok (by omega) hg
          have g2 := fun b8 => sim_walk hO (by omega) b8 _ n 0 tx.size (Nat.le_refl _) w4 w5 w1 (Int.le_refl _) w2 w3 (Int.le_refl _)
          unfold WkS at g2
          rw [enc_ag] at g1 g2
          clear w1 w2 w3 w4 w5 hg hO hb hl hz
          generalize ops.map emix = O at gh g1 g2 ⊢
          refine sim_body Tryz.func3 rfl rfl rfl ?_
          repeat (any_goals (first | refine aw_freeze 2 rfl (Pick.perm (by repeat (first | exact Pick.here _ | apply Pick.there))) (by intro x hx; rw [List.mem_singleton] at hx; subst hx; rfl) ?_ | refine aw_freeze 3 rfl (Pick.perm (by repeat (first | exact Pick.here _ | apply Pick.there))) (by intro x hx; rw [List.mem_singleton] at hx; subst hx; rfl) ?_ | refine s_at ?_ | refine s_skip ?_ | refine s_off ?_ | refine s_offn ?_ | refine s_move ?_ | refine s_assign ?_ | refine s_load ?_ | refine s_loade ?_ | refine s_loadd ?_ | refine s_pick1 ?_ | refine s_pick0 ?_ | refine s_pure ?_ | refine s_nil ?_ | refine aw_seq ?_ | refine aw_seqr ?_ | refine aw_block ?_ | refine aw_true ?_ | refine aw_false ?_ | refine s_alloc (fun _ => ?_) | refine s_allocd (fun _ => ?_) | refine s_box (fun _ => ?_) | refine s_box1 (fun _ => ?_) | refine s_store' ?_ | (refine s_cmp (fun h => ?_) (fun h => ?_) <;> try (exfalso; omega)) | refine s_call0 gs ?_ | refine s_call0 gh ?_ | refine s_call0 g1 ?_ | refine s_callvr (g2 _) ?_))
          all_goals
            refine aw_ret ?_; (repeat (first | refine then_ret ?_ | refine inb_ret ?_))
            exact post_of ⟨rfl, rfl⟩ rvs pks
        · rw [enc_ag] at g1
          clear hg hO hb hl hz
          generalize ops.map emix = O at gh g1 ⊢
          refine sim_body Tryz.func3 rfl rfl rfl ?_
          repeat (any_goals (first | refine s_at ?_ | refine s_skip ?_ | refine s_off ?_ | refine s_offn ?_ | refine s_move ?_ | refine s_assign ?_ | refine s_load ?_ | refine s_loade ?_ | refine s_loadd ?_ | refine s_pick1 ?_ | refine s_pick0 ?_ | refine s_pure ?_ | refine s_nil ?_ | refine aw_seq ?_ | refine aw_seqr ?_ | refine aw_block ?_ | refine aw_true ?_ | refine aw_false ?_ | refine s_alloc (fun _ => ?_) | refine s_allocd (fun _ => ?_) | refine s_box (fun _ => ?_) | refine s_box1 (fun _ => ?_) | refine s_store' ?_ | (refine s_cmp (fun h => ?_) (fun h => ?_) <;> try (exfalso; omega)) | refine s_call0 gs ?_ | refine s_call0 gh ?_ | refine s_call0 g1 ?_))
          all_goals
            refine aw_ret ?_; (repeat (first | refine then_ret ?_ | refine inb_ret ?_))
            exact post_of ⟨rfl, rfl⟩ rvs pks
    · refine sim_body Tryz.func3 rfl rfl rfl ?_
      repeat (any_goals (first | refine s_at ?_ | refine s_skip ?_ | refine s_off ?_ | refine s_offn ?_ | refine s_move ?_ | refine s_assign ?_ | refine s_load ?_ | refine s_loade ?_ | refine s_loadd ?_ | refine s_pick1 ?_ | refine s_pick0 ?_ | refine s_pure ?_ | refine s_nil ?_ | refine aw_seq ?_ | refine aw_seqr ?_ | refine aw_block ?_ | refine aw_true ?_ | refine aw_false ?_ | refine s_alloc (fun _ => ?_) | refine s_allocd (fun _ => ?_) | refine s_box (fun _ => ?_) | refine s_box1 (fun _ => ?_) | refine s_store' ?_ | (refine s_cmp (fun h => ?_) (fun h => ?_) <;> try (exfalso; omega)) | refine s_call0 gs ?_ | refine s_call0 gh ?_))
      all_goals
        refine aw_ret ?_; (repeat (first | refine then_ret ?_ | refine inb_ret ?_))
        exact post_of ⟨rfl, rfl⟩ rvs pks
theorem walk_ParsePlaces (tx : ByteArray) (A : Option Addr) (len cap : Nat) (ops : List Mx) (w : World) (hz : tx.size ≤ 140737488351232) (hl : ops.length ≤ 9223372036854775807) (hv : VR (stay (lies w)) w (.slice A len cap) (.sl 5 (ops.map emix))) (hG : GL w) :
    Calls Tryz.prog 3 #[.string tx, .slice A len cap] w fun e w' => e = .returned (.bool true) ∧ Below w.heap.size w w' := by
  refine (Sim.enter (law_places tx ops hl hz) hG (lies w) (fun b o h => h) (vs := [.string tx, .slice A len cap]) (VRs.cons (.sc _) (VRs.cons hv (VRs.nil _ _)))).mono ?_
  rintro e w' ⟨hB, g', σ', o, ho, rfl, rfl⟩
  refine ⟨?_, hB⟩
  cases e with
  | returned v => rw [show v = .bool true from VR.bool ho]
  | panicked c => exact ho.elim
  | outgrown => exact ho.elim
end Go.Proofs.YtjcocblohiglbaaGreatDoor
