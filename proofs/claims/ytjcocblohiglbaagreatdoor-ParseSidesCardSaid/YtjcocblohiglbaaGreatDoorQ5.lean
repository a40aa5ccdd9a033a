/- The law ParseSides: its walk, and entered from a world. Conditions: none. -/
import Derived.Test.YtjcocblohiglbaaGreatDoorQ2
import Derived.Test.YtjcocblohiglbaaGreatDoorQ4
namespace Go.Proofs.YtjcocblohiglbaaGreatDoor
open Go.Dp Go.RowKit
set_option linter.unusedVariables false
set_option linter.unusedSimpArgs false
def repS (m : Nat) : ByteArray := ⟨(plusL m).toArray⟩
theorem rep_plus : ∀ m, Lib.repeatL [32, 43, 32, 97] m = plusL m
  | 0 => rfl
  | m + 1 => by rw [Lib.repeatL, rep_plus m]; rfl
theorem text_eq (m : Nat) : (⟨#[97]⟩ : ByteArray) ++ repS m = textS m := by
  apply ByteArray.ext
  simp [repS, textS, ByteArray.data_append]
theorem sim_Repeat (m : Nat) (h1 : 1 ≤ m) (h2 : m ≤ 60) : Sim Tryz.prog GL 15 [str ⟨#[32, 43, 32, 97]⟩, i64 (m : Int)] [] (fun o τ => o = .ret (str (repS m)) ∧ τ = []) :=
  sim_olds ⟨_, _, Tryz.func15, rfl, rfl⟩ fun w0 g w vs hI hB hv => by
    have e := VRs.scalars (us := [.string ⟨#[32, 43, 32, 97]⟩, .int .i64 (m : Int)]) hv
    subst e
    by_cases h : m = 1
    · subst h
      refine (Tryz.strings_Repeat_one ⟨#[32, 43, 32, 97]⟩ w).mono ?_
      rintro e w' ⟨rfl, rfl⟩
      exact ⟨rfl, Below.refl _ _⟩
    · refine (Tryz.strings_Repeat_main ⟨#[32, 43, 32, 97]⟩ m w (by omega) (by omega) (by show 4 * m ≤ _; omega) (by decide)).mono ?_
      rintro e w' ⟨rfl, hd⟩
      exact ⟨by rw [repS, ← rep_plus], hd⟩
theorem want_form (side : Int) (m : Nat) : ∃ s l, wantS side m = .mk 50 0 s l 0 0 := by
  cases m with
  | zero => exact ⟨_, _, rfl⟩
  | succ m =>
    rw [wantS]
    split
    · exact ⟨_, _, rfl⟩
    · exact ⟨_, _, rfl⟩
theorem enN_want (side : Int) (m : Nat) : ∃ s L, enN (wantS side m) = nd 50 0 s L 0 0 ∧ (L = .sc (.slice none 0 0) ∨ ∃ R, L = .sl 6 R) := by
  obtain ⟨s, l, h⟩ := want_form side m
  exact ⟨s, enNl l, by rw [h, enN], enNl_shape l⟩
set_option maxRecDepth 20000 in set_option maxHeartbeats 4000000 in
theorem sides_end (prio side lower : Int) (X : ByteArray) (hX : X.size ≤ 1000) (m : Nat) (n : Nd) (b13 b16 : Nat) (k0 n0 : Int) (s0 : ByteArray) (L0 : List AV) (b0 e0 : Int)
    (gE : Sim Tryz.prog GL 11 [str ((X ++ ⟨#[32, 35, 32]⟩) ++ X), .sl 5 ((opsS prio side lower).map emix)] [] (fun o τ => o = .ret (.tu [enc n, i64 0, i64 0]) ∧ τ = []))
    (hc : cnt n ≤ 1000000) (hm : m ≤ 60) (hs : same n (.mk 50 0 ⟨#[95, 35, 95]⟩ [wantS side m, wantS side m] 0 0) = true) :
    AW Tryz.prog GL Tryz.f6.ntmps (sndC (sndC (sndC (sndC (sndC (sndC (sndC (sndC (sndC (sndC (sndC (bodyC Tryz.f6)))))))))))) (Post Tryz.prog Tryz.f6 (fun o τ => o = .ret (boo true) ∧ τ = []))
    [(11, .sl 5 ((opsS prio side lower).map emix)), (12, str X), (13, ptr b13), (16, ptr b16)] [.box b13 (nd k0 n0 s0 (.sl 6 L0) b0 e0) 27, .box b16 (enN (wantS side m)) 27] := by
  have hw := want_size side m
  have gS := sim_SameN GL n (.mk 50 0 ⟨#[95, 35, 95]⟩ [wantS side m, wantS side m] 0 0) hc (by simp only [cnt, cnts, hw.1]; omega)
  rw [hs] at gS
  obtain ⟨s, L, hE, hL⟩ := enN_want side m
  rw [enN, enNl, enNs, enNs, hE] at gS
  rw [hE]
  rw [enc_ag] at gE gS
  clear hs hw hE
  have q1 : X.size + (⟨#[32, 35, 32]⟩ : ByteArray).size ≤ 9223372036854775807 := by show X.size + 3 ≤ _; omega
  have q2 : (X ++ (⟨#[32, 35, 32]⟩ : ByteArray)).size + X.size ≤ 9223372036854775807 := by rw [ByteArray.size_append]; show X.size + 3 + X.size ≤ _; omega
  generalize (opsS prio side lower).map emix = O at gE
  rcases hL with rfl | ⟨R, rfl⟩ <;>
  · show AW _ _ _ (Code.seq _ _) _ _ _
    repeat (any_goals (first | refine s_at ?_ | refine s_skip ?_ | refine s_off ?_ | refine s_offn ?_ | refine s_move ?_ | refine s_assign ?_ | refine s_load ?_ | refine s_loade ?_ | refine s_loadd ?_ | refine s_pick1 ?_ | refine s_pick0 ?_ | refine s_pure ?_ | refine s_nil ?_ | refine aw_seq ?_ | refine aw_seqr ?_ | refine aw_block ?_ | refine aw_true ?_ | refine aw_false ?_ | refine s_alloc (fun _ => ?_) | refine s_allocd (fun _ => ?_) | refine s_box (fun _ => ?_) | refine s_box1 (fun _ => ?_) | refine s_store' ?_ | refine s_call0 gE ?_ | refine s_call0 gS ?_ | refine s_call0 (sim_app GL _ _) ?_ | refine s_litq ?_ | refine s_concat q1 ?_ | refine s_concat q2 ?_ | refine s_drawn 11 [] ?_ | (refine s_cmp (fun h => ?_) (fun h => ?_) <;> try (exfalso; first | omega | exact h rfl))))
    refine aw_ret ?_; (repeat (first | refine then_ret ?_ | refine inb_ret ?_))
    exact post_of ⟨rfl, rfl⟩ rvs pks
set_option maxRecDepth 20000 in set_option maxHeartbeats 4000000 in
theorem sides_mid (prio side lower : Int) (X : ByteArray) (hX : X.size ≤ 1000) (m : Nat) (hm1 : 1 ≤ m) (hm : m ≤ 60) (r1 r2 r3 : Rd3) (b13 b16 : Nat)
    (h1 : ¬ (side = 0 ∧ 1 < m) → r1.e = 0 ∧ same r1.n (wantS side m) = true ∧ r2.e = 0 ∧ r2.at_ = 0 ∧ same r2.n (.mk 50 0 ⟨#[95, 35, 95]⟩ [wantS side m, wantS side m] 0 0) = true)
    (h2 : side = 0 ∧ 1 < m → r1.e = 22 ∧ r1.at_ = 6)
    (h3 : side = 0 → r3.e = 0 ∧ r3.at_ = 0 ∧ same r3.n (.mk 50 0 ⟨#[95, 35, 95]⟩ [wantS side 1, wantS side 1] 0 0) = true)
    (gE2 : Sim Tryz.prog GL 11 [str ((X ++ ⟨#[32, 35, 32]⟩) ++ X), .sl 5 ((opsS prio side lower).map emix)] [] (fun o τ => o = .ret (enR r2) ∧ τ = []))
    (gE3 : Sim Tryz.prog GL 11 [str (((⟨#[97, 32, 43, 32, 97]⟩ : ByteArray) ++ ⟨#[32, 35, 32]⟩) ++ ⟨#[97, 32, 43, 32, 97]⟩), .sl 5 ((opsS prio side lower).map emix)] [] (fun o τ => o = .ret (enR r3) ∧ τ = []))
    (c1 : cnt r1.n ≤ 60000) (c2 : cnt r2.n ≤ 60000) (c3 : cnt r3.n ≤ 60000) :
    AW Tryz.prog GL Tryz.f6.ntmps (sndC (sndC (sndC (sndC (sndC (sndC (sndC (sndC (sndC (sndC (bodyC Tryz.f6))))))))))) (Post Tryz.prog Tryz.f6 (fun o τ => o = .ret (boo true) ∧ τ = []))
    [(0, i64 (m : Int)), (2, i64 side), (11, .sl 5 ((opsS prio side lower).map emix)), (12, str X), (13, ptr b13), (14, i64 r1.at_), (15, i64 r1.e), (16, ptr b16)] [.box b13 (nd r1.n.kind r1.n.n r1.n.s (.sl 6 (encs r1.n.l)) r1.n.b r1.n.e) 27, .box b16 (enN (wantS side m)) 27] := by
  obtain ⟨n1, a1, e1⟩ := r1
  obtain ⟨n2, a2, e2⟩ := r2
  obtain ⟨n3, a3, e3⟩ := r3
  unfold enR at gE2 gE3
  dsimp only at h1 h2 h3 gE2 gE3 c1 c2 c3 ⊢
  by_cases hB : side = 0 ∧ 1 < m
  · obtain ⟨k1, k2⟩ := h2 hB
    obtain ⟨k3, k4, k5⟩ := h3 hB.1
    obtain ⟨rfl, hm1⟩ := hB
    subst k1 k2 k3 k4
    have hend := fun k0 n0 s0 L0 b0 e0 => sides_end prio 0 lower ⟨#[97, 32, 43, 32, 97]⟩ (by show 5 ≤ 1000; decide) 1 n3 b13 b16 k0 n0 s0 L0 b0 e0 gE3 (by omega) (by omega) k5
    have hE1 : enN (wantS 0 1) = nd 50 0 ⟨#[95, 43, 95]⟩ (.sl 6 [.ag (nd 50 0 ⟨#[97]⟩ (.sc (.slice none 0 0)) 0 0), .ag (nd 50 0 ⟨#[97]⟩ (.sc (.slice none 0 0)) 0 0)]) 0 0 := rfl
    rw [hE1] at hend
    obtain ⟨s, L, hE, hL⟩ := enN_want 0 m
    rw [hE]
    clear h1 h2 h3 gE2 gE3 c1 c2 c3 hE hE1 k5
    generalize (opsS prio 0 lower).map emix = O at hend
    rcases hL with rfl | ⟨R, rfl⟩ <;>
    · show AW _ _ _ (Code.seq _ _) _ _ _
      repeat (any_goals (first | exact aw_to (hend _ _ _ _ _ _) els pks | refine s_at ?_ | refine s_skip ?_ | refine s_off ?_ | refine s_offn ?_ | refine s_move ?_ | refine s_assign ?_ | refine s_load ?_ | refine s_loade ?_ | refine s_loadd ?_ | refine s_pick1 ?_ | refine s_pick0 ?_ | refine s_pure ?_ | refine s_nil ?_ | refine aw_seq ?_ | refine aw_seqr ?_ | refine aw_block ?_ | refine aw_true ?_ | refine aw_false ?_ | refine s_alloc (fun _ => ?_) | refine s_allocd (fun _ => ?_) | refine s_box (fun _ => ?_) | refine s_box1 (fun _ => ?_) | refine s_store' ?_ | refine s_call0 (sim_app GL _ _) ?_ | refine s_call0 (sim_app0 GL _) ?_ | refine s_litq ?_ | (refine s_cmp (fun h => ?_) (fun h => ?_) <;> try (exfalso; first | omega | exact h rfl))))
      done
  · obtain ⟨k1, k2, k3, k4, k5⟩ := h1 hB
    subst k1 k3 k4
    have hend := fun k0 n0 s0 L0 b0 e0 => sides_end prio side lower X hX m n2 b13 b16 k0 n0 s0 L0 b0 e0 gE2 (by omega) hm k5
    have hw := want_size side m
    have gS := sim_SameN GL n1 (wantS side m) (by omega) (by omega)
    rw [k2, enc_ag] at gS
    obtain ⟨s, L, hE, hL⟩ := enN_want side m
    rw [hE] at gS hend ⊢
    clear h1 h2 h3 gE2 gE3 c1 c2 c3 hE k5 k2 hw
    generalize (opsS prio side lower).map emix = O at hend
    by_cases h0 : side = 0
    · subst h0
      rcases hL with rfl | ⟨R, rfl⟩ <;>
      · show AW _ _ _ (Code.seq _ _) _ _ _
        repeat (any_goals (first | exact aw_to (hend _ _ _ _ _ _) els pks | refine s_at ?_ | refine s_skip ?_ | refine s_off ?_ | refine s_offn ?_ | refine s_move ?_ | refine s_assign ?_ | refine s_load ?_ | refine s_loade ?_ | refine s_loadd ?_ | refine s_pick1 ?_ | refine s_pick0 ?_ | refine s_pure ?_ | refine s_nil ?_ | refine aw_seq ?_ | refine aw_seqr ?_ | refine aw_block ?_ | refine aw_true ?_ | refine aw_false ?_ | refine s_alloc (fun _ => ?_) | refine s_allocd (fun _ => ?_) | refine s_box (fun _ => ?_) | refine s_box1 (fun _ => ?_) | refine s_store' ?_ | refine s_call0 gS ?_ | (refine s_cmp (fun h => ?_) (fun h => ?_) <;> try (exfalso; first | omega | exact h rfl))))
        done
    · rcases hL with rfl | ⟨R, rfl⟩ <;>
      · show AW _ _ _ (Code.seq _ _) _ _ _
        repeat (any_goals (first | exact aw_to (hend _ _ _ _ _ _) els pks | refine s_at ?_ | refine s_skip ?_ | refine s_off ?_ | refine s_offn ?_ | refine s_move ?_ | refine s_assign ?_ | refine s_load ?_ | refine s_loade ?_ | refine s_loadd ?_ | refine s_pick1 ?_ | refine s_pick0 ?_ | refine s_pure ?_ | refine s_nil ?_ | refine aw_seq ?_ | refine aw_seqr ?_ | refine aw_block ?_ | refine aw_true ?_ | refine aw_false ?_ | refine s_alloc (fun _ => ?_) | refine s_allocd (fun _ => ?_) | refine s_box (fun _ => ?_) | refine s_box1 (fun _ => ?_) | refine s_store' ?_ | refine s_call0 gS ?_ | (refine s_cmp (fun h => ?_) (fun h => ?_) <;> try (exfalso; first | omega | exact h rfl | exact h0 h))))
        done
end Go.Proofs.YtjcocblohiglbaaGreatDoor
