/- The law ParseJoined: its walk, and entered from a world. Conditions: none. -/
import Derived.Test.YtjcocblohiglbaaGreatDoorY3
namespace Go.Proofs.YtjcocblohiglbaaGreatDoor
open Go.Dp Go.RowKit
set_option linter.unusedVariables false
set_option linter.unusedSimpArgs false
theorem joined_all {a b : ByteArray} {ops : List Mx} (hO : OpsOk ops) (za : a.size ≤ 1000) (zb : b.size ≤ 1000) {x y : Nd} {pa pb : Int} (hx : givenP lxP pBehaviour kdP ops a = ⟨x, pa, 0⟩) (hy : givenP lxP pBehaviour kdP ops b = ⟨y, pb, 0⟩) (dx : dep x ≤ 300) (dy : dep y ≤ 300) {k : Int} (hk : k = 0 ∨ k = 1 ∨ k = 2 ∨ k = 3 ∨ k = 4) (b9 b12 : Nat) :
    TailJ (ops.map emix) a b x y b9 b12 k := by
  have cx := read_cnt lxP pBehaviour kdP ops a
  have cy := read_cnt lxP pBehaviour kdP ops b
  rw [hx] at cx
  rw [hy] at cy
  dsimp only at cx cy
  rcases hk with rfl | rfl | rfl | rfl | rfl
  · obtain ⟨m, hm, hs⟩ := joined0 za zb x pa y pb hx hy dx dy
    have gB := sim_BehaviourG (joinT a ⟨#[91, 93]⟩ b) ops (by rw [joinT_size]; show a.size + 2 + b.size + 10 ≤ _; omega) hO
    have cm := read_cnt lxP pBehaviour kdP ops (joinT a ⟨#[91, 93]⟩ b)
    rw [hm] at gB cm
    unfold enR at gB
    dsimp only at gB cm
    rw [enc_ag] at gB
    have gS := sim_same GL _ m (.mk 23 0 ⟨#[]⟩ [x, y] 0 0) (Nat.le_refl _) (by omega) (by simp only [cnt, cnts]; omega)
    rw [hs] at gS
    exact joined_tail0 a b za zb _ x y m b9 b12 gB (gS.weak (.cons _ _ _ _ (by rw [enc_ag m]; exact .refl _) (.cons _ _ _ _ (sub_enc (by rw [encs2, enc_ag x, enc_ag y]; exact .refl _)) .nil)) fun o σ h => ⟨o, h.1 ▸ .ret _ _ (.refl _), h⟩)
  · obtain ⟨m, hm, hs⟩ := joined1 za zb x pa y pb hx hy dx dy
    have gB := sim_BehaviourG (joinT a ⟨#[91, 62]⟩ b) ops (by rw [joinT_size]; show a.size + 2 + b.size + 10 ≤ _; omega) hO
    have cm := read_cnt lxP pBehaviour kdP ops (joinT a ⟨#[91, 62]⟩ b)
    rw [hm] at gB cm
    unfold enR at gB
    dsimp only at gB cm
    rw [enc_ag] at gB
    have gS := sim_same GL _ m (.mk 27 0 ⟨#[]⟩ [x, y] 0 0) (Nat.le_refl _) (by omega) (by simp only [cnt, cnts]; omega)
    rw [hs] at gS
    exact joined_tail1 a b za zb _ x y m b9 b12 gB (gS.weak (.cons _ _ _ _ (by rw [enc_ag m]; exact .refl _) (.cons _ _ _ _ (sub_enc (by rw [encs2, enc_ag x, enc_ag y]; exact .refl _)) .nil)) fun o σ h => ⟨o, h.1 ▸ .ret _ _ (.refl _), h⟩)
  · obtain ⟨m, hm, hs⟩ := joined2 za zb x pa y pb hx hy dx dy
    have gB := sim_BehaviourG (joinT a ⟨#[62, 62]⟩ b) ops (by rw [joinT_size]; show a.size + 2 + b.size + 10 ≤ _; omega) hO
    have cm := read_cnt lxP pBehaviour kdP ops (joinT a ⟨#[62, 62]⟩ b)
    rw [hm] at gB cm
    unfold enR at gB
    dsimp only at gB cm
    rw [enc_ag] at gB
    have gS := sim_same GL _ m (.mk 26 0 ⟨#[]⟩ [.mk 8 0 ⟨#[]⟩ [] 0 0, x, y] 0 0) (Nat.le_refl _) (by omega) (by simp only [cnt, cnts]; omega)
    rw [hs] at gS
    exact joined_tail2 a b za zb _ x y m b9 b12 gB (gS.weak (.cons _ _ _ _ (by rw [enc_ag m]; exact .refl _) (.cons _ _ _ _ (sub_enc (by rw [encs3, enc_ag x, enc_ag y]; exact .sl _ _ _ (.cons _ _ _ _ sub_leaf (Subs.refl _)))) .nil)) fun o σ h => ⟨o, h.1 ▸ .ret _ _ (.refl _), h⟩)
  · obtain ⟨m, hm, hs⟩ := joined3 za zb x pa y pb hx hy dx dy
    have gB := sim_BehaviourG (joinT a ⟨#[124, 124, 124]⟩ b) ops (by rw [joinT_size]; show a.size + 3 + b.size + 10 ≤ _; omega) hO
    have cm := read_cnt lxP pBehaviour kdP ops (joinT a ⟨#[124, 124, 124]⟩ b)
    rw [hm] at gB cm
    unfold enR at gB
    dsimp only at gB cm
    rw [enc_ag] at gB
    have gS := sim_same GL _ m (.mk 24 0 ⟨#[124, 124, 124]⟩ [.mk 8 0 ⟨#[]⟩ [] 0 0, x, y] 0 0) (Nat.le_refl _) (by omega) (by simp only [cnt, cnts]; omega)
    rw [hs] at gS
    exact joined_tail3 a b za zb _ x y m b9 b12 gB (gS.weak (.cons _ _ _ _ (by rw [enc_ag m]; exact .refl _) (.cons _ _ _ _ (sub_enc (by rw [encs3, enc_ag x, enc_ag y]; exact .sl _ _ _ (.cons _ _ _ _ sub_leaf (Subs.refl _)))) .nil)) fun o σ h => ⟨o, h.1 ▸ .ret _ _ (.refl _), h⟩)
  · obtain ⟨m, hm, hs⟩ := joined4 za zb x pa y pb hx hy dx dy
    have gB := sim_BehaviourG (joinT a ⟨#[124, 91, 103, 44, 32, 104, 93, 124]⟩ b) ops (by rw [joinT_size]; show a.size + 8 + b.size + 10 ≤ _; omega) hO
    have cm := read_cnt lxP pBehaviour kdP ops (joinT a ⟨#[124, 91, 103, 44, 32, 104, 93, 124]⟩ b)
    rw [hm] at gB cm
    unfold enR at gB
    dsimp only at gB cm
    rw [enc_ag] at gB
    have gS := sim_same GL _ m (.mk 24 0 ⟨#[124, 91]⟩ [.mk 8 0 ⟨#[]⟩ [.mk 7 0 ⟨#[103]⟩ [] 0 0, .mk 7 0 ⟨#[104]⟩ [] 0 0] 0 0, x, y] 0 0) (Nat.le_refl _) (by omega) (by simp only [cnt, cnts]; omega)
    rw [hs] at gS
    exact joined_tail4 a b za zb _ x y m b9 b12 gB (gS.weak (.cons _ _ _ _ (by rw [enc_ag m]; exact .refl _) (.cons _ _ _ _ (sub_enc (by rw [encs3, enc_ag x, enc_ag y]; exact .sl _ _ _ (.cons _ _ _ _ (sub_enc (by rw [encs2]; exact .sl _ _ _ (.cons _ _ _ _ sub_leaf (.cons _ _ _ _ sub_leaf .nil)))) (Subs.refl _)))) .nil)) fun o σ h => ⟨o, h.1 ▸ .ret _ _ (.refl _), h⟩)
set_option maxRecDepth 20000 in set_option maxHeartbeats 4000000 in
theorem law_joined (a b : ByteArray) (ops : List Mx) (kind : Int) (hl : ops.length ≤ 9223372036854775807) (za : a.size ≤ 140737488351232) (zb : b.size ≤ 140737488351232) : Sim Tryz.prog GL 5 [str a, str b, .sl 5 (ops.map emix), i64 kind] [] (fun o τ => o = .ret (boo true) ∧ τ = []) := by
  have gs := sim_sane
  have gh : Sim Tryz.prog GL 8 [.sl 5 (ops.map emix), .sc (.slice none 0 0)] [] (fun o τ => o = .ret (boo (shortB ops [])) ∧ τ = []) := (sim_short GL ops [] hl (by decide)).weak (.cons _ _ _ _ (.refl _) (.cons _ _ _ _ (.nil 1) .nil)) fun o σ h => ⟨o, h.1 ▸ .ret _ _ (.refl _), h⟩
  cases hb : shortB ops [] with
  | false =>
    rw [hb] at gh
    refine sim_body Tryz.func5 rfl rfl rfl ?_
    repeat (any_goals (first | refine s_at ?_ | refine s_skip ?_ | refine s_off ?_ | refine s_offn ?_ | refine s_move ?_ | refine s_assign ?_ | refine s_load ?_ | refine s_loade ?_ | refine s_loadd ?_ | refine s_pick1 ?_ | refine s_pick0 ?_ | refine s_pure ?_ | refine s_nil ?_ | refine aw_seq ?_ | refine aw_seqr ?_ | refine aw_block ?_ | refine aw_true ?_ | refine aw_false ?_ | refine s_alloc (fun _ => ?_) | refine s_allocd (fun _ => ?_) | refine s_box (fun _ => ?_) | refine s_box1 (fun _ => ?_) | refine s_store' ?_ | refine s_call0 gs ?_ | refine s_call0 gh ?_ | refine s_litq ?_))
    refine aw_ret ?_; (repeat (first | refine then_ret ?_ | refine inb_ret ?_))
    exact post_of ⟨rfl, rfl⟩ rvs pks
  | true =>
    rw [hb] at gh
    obtain ⟨hO, -⟩ := short_ops hb
    have g1 := sim_BehaviourG a ops za hO
    have g2 := sim_BehaviourG b ops zb hO
    have c1 := read_cnt lxP pBehaviour kdP ops a
    have c2 := read_cnt lxP pBehaviour kdP ops b
    obtain ⟨r, k, hr, hr1, hr2, hk, hk5⟩ := five kind
    cases h1 : givenP lxP pBehaviour kdP ops a with
    | mk x pa e1 =>
      cases h2 : givenP lxP pBehaviour kdP ops b with
      | mk y pb e2 =>
        rw [h1] at g1 c1
        rw [h2] at g2 c2
        unfold enR at g1 g2
        dsimp only at g1 g2 c1 c2
        have s1 := sim_Size GL _ x (Nat.le_refl _) (by omega)
        have s2 := sim_Size GL _ y (Nat.le_refl _) (by omega)
        rw [enc_ag] at g1 g2 s1 s2
        have htail : e1 = 0 → e2 = 0 → dep x ≤ 300 → dep y ≤ 300 → a.size ≤ 1000 → b.size ≤ 1000 → ∀ b9 b12, _ := fun i1 i2 i3 i4 i5 i6 b9 b12 => joined_all hO i5 i6 (i1 ▸ h1) (i2 ▸ h2) i3 i4 hk5 b9 b12
        clear hk5 hb h1 h2 hO hl za zb
        generalize ops.map emix = O at gh g1 g2 htail
        refine sim_body Tryz.func5 rfl rfl rfl ?_
        repeat (any_goals (first | exact aw_to (htail (by omega) (by omega) (by omega) (by omega) (by omega) (by omega) _ _) els pks | refine s_at ?_ | refine s_skip ?_ | refine s_off ?_ | refine s_offn ?_ | refine s_move ?_ | refine s_assign ?_ | refine s_load ?_ | refine s_loade ?_ | refine s_loadd ?_ | refine s_pick1 ?_ | refine s_pick0 ?_ | refine s_pure ?_ | refine s_nil ?_ | refine aw_seq ?_ | refine aw_seqr ?_ | refine aw_block ?_ | refine aw_true ?_ | refine aw_false ?_ | refine s_alloc (fun _ => ?_) | refine s_allocd (fun _ => ?_) | refine s_box (fun _ => ?_) | refine s_box1 (fun _ => ?_) | refine s_store' ?_ | refine s_call0 gs ?_ | refine s_call0 gh ?_ | refine s_call0 g1 ?_ | refine s_call0 g2 ?_ | refine s_call0 s1 ?_ | refine s_call0 s2 ?_ | refine s_litq ?_ | refine s_rem hr ?_ | refine s_rem hk ?_ | refine s_cmp (fun h => ?_) (fun h => ?_) | refine s_add ?_))
        all_goals
          refine aw_ret ?_; (repeat (first | refine then_ret ?_ | refine inb_ret ?_))
          exact post_of ⟨rfl, rfl⟩ rvs pks
theorem walk_ParseJoined (a b : ByteArray) (A : Option Addr) (len cap : Nat) (ops : List Mx) (kind : Int) (w : World) (za : a.size ≤ 140737488351232) (zb : b.size ≤ 140737488351232) (hl : ops.length ≤ 9223372036854775807) (hv : VR (stay (lies w)) w (.slice A len cap) (.sl 5 (ops.map emix))) (hk : -9223372036854775808 ≤ kind ∧ kind ≤ 9223372036854775807) (hG : GL w) :
    Calls Tryz.prog 5 #[.string a, .string b, .slice A len cap, .int .i64 kind] w fun e w' => e = .returned (.bool true) ∧ Below w.heap.size w w' := by
  refine (Sim.enter (law_joined a b ops kind hl za zb) hG (lies w) (fun b o h => h) (vs := [.string a, .string b, .slice A len cap, .int .i64 kind]) (VRs.cons (.sc _) (VRs.cons (.sc _) (VRs.cons hv (VRs.cons (.sc _) (VRs.nil _ _)))))).mono ?_
  rintro e w' ⟨hB, g', σ', o, ho, rfl, rfl⟩
  refine ⟨?_, hB⟩
  cases e with
  | returned v => rw [show v = .bool true from VR.bool ho]
  | panicked c => exact ho.elim
  | outgrown => exact ho.elim
end Go.Proofs.YtjcocblohiglbaaGreatDoor
