/- The examples of the chapter: sane gives true. Conditions: none. -/
import Derived.Test.YtjcocblohiglbaaGreatDoorP1
namespace Go.Proofs.YtjcocblohiglbaaGreatDoor
open Go.Dp
set_option linter.unusedVariables false
set_option linter.unusedSimpArgs false
mutual
/-- A node as a literal has it: no nodes are the nil slice. -/
def enN : Nd → List AV
  | .mk k n s l b e => nd k n s (enNl l) b e
def enNl : List Nd → AV
  | [] => .sc (.slice none 0 0)
  | x :: l => .sl 6 (.ag (enN x) :: enNs l)
def enNs : List Nd → List AV
  | [] => []
  | x :: l => .ag (enN x) :: enNs l
end
mutual
theorem sub_enN : ∀ (x : Nd), Sub (.ag (enN x)) (enc x)
  | .mk k n s l b e => by
    rw [enN]
    exact sub_enc (sub_enNl l)
theorem sub_enNl : ∀ (l : List Nd), Sub (enNl l) (.sl 6 (encs l))
  | [] => by rw [enNl, encs]; exact .nil 6
  | x :: l => by
    rw [enNl, encs]
    exact .sl _ _ _ (.cons _ _ _ _ (sub_enN x) (sub_enNs l))
theorem sub_enNs : ∀ (l : List Nd), Subs (enNs l) (encs l)
  | [] => by rw [enNs, encs]; exact .nil
  | x :: l => by
    rw [enNs, encs]
    exact .cons _ _ _ _ (sub_enN x) (sub_enNs l)
end
section
variable (I : World → Prop)
theorem sim_SameN (n w : Nd) (h1 : cnt n ≤ 1000000) (h2 : cnt w ≤ 1000000) : Sim Tryz.prog I 12 [enc n, .ag (enN w)] [] (fun o τ => o = .ret (boo (same n w)) ∧ τ = []) :=
  (sim_same I _ n w (Nat.le_refl _) (by omega) (by omega)).weak (.cons _ _ _ _ (.refl _) (.cons _ _ _ _ (sub_enN w) .nil)) fun o σ h => ⟨o, h.1 ▸ .ret _ _ (.refl _), h⟩
set_option maxRecDepth 20000 in set_option maxHeartbeats 4000000 in
theorem sim_act (s : ByteArray) (k n : Int) (z : ByteArray) (L : AV) (hL : L.one = true) (b e : Int) : Sim Tryz.prog I 18 [str s, .ag (nd k n z L b e)] [] (fun o τ => o = .ret (.ag (nd 22 0 ⟨#[]⟩ (.sl 6 [.ag (nd 7 0 s (.sc (.slice none 0 0)) 0 0), .ag (nd 8 0 ⟨#[]⟩ (.sc (.slice none 0 0)) 0 0), .ag (nd 8 0 ⟨#[]⟩ (.sc (.slice none 0 0)) 0 0), .ag (nd 8 0 ⟨#[]⟩ (.sc (.slice none 0 0)) 0 0), .ag (nd k n z L b e)]) 0 0)) ∧ τ = []) := by
  refine sim_body Tryz.func18 rfl rfl rfl ?_
  repeat (any_goals (first | refine s_at ?_ | refine s_skip ?_ | refine s_off ?_ | refine s_offn ?_ | refine s_move ?_ | refine s_assign ?_ | refine s_load ?_ | refine s_loade ?_ | refine s_loadd ?_ | refine s_pick1 ?_ | refine s_pick0 ?_ | refine s_pure ?_ | refine s_nil ?_ | refine aw_seq ?_ | refine aw_seqr ?_ | refine aw_block ?_ | refine aw_true ?_ | refine aw_false ?_ | refine s_alloc (fun _ => ?_) | refine s_allocd (fun _ => ?_) | refine s_box (fun _ => ?_) | refine s_box1 (fun _ => ?_) | refine s_store' ?_ | refine s_drawn 9 [8] ?_ | refine s_lito ?_ | refine s_call0 (sim_lst0 I) ?_))
  refine aw_ret ?_; (repeat (first | refine then_ret ?_ | refine inb_ret ?_))
  exact post_of ⟨rfl, rfl⟩ rvs pks
end
theorem ops_nil : OpsOk [] := ⟨Nat.zero_le _, fun m hm => by cases hm⟩
theorem sim_Behaviour0 (tx : ByteArray) (hs : tx.size ≤ 140737488351232) : Sim Tryz.prog GL 9 [str tx, .sc (.slice none 0 0)] [] (fun o τ => o = .ret (enR (givenP lxP pBehaviour kdP [] tx)) ∧ τ = []) :=
  (sim_BehaviourG tx [] hs ops_nil).weak (.cons _ _ _ _ (.refl _) (.cons _ _ _ _ (.nil 5) .nil)) fun o σ h => ⟨o, h.1 ▸ .ret _ _ (.refl _), h⟩
def txt1 : ByteArray := ⟨#[97, 59, 32, 98, 59, 32, 115, 116, 111, 112, 32, 91, 93, 32, 99, 59, 32, 115, 116, 111, 112]⟩
def txt2 : ByteArray := ⟨#[80, 91, 97, 93, 32, 124, 124, 124, 32, 81, 32, 62, 62, 32, 82]⟩
def txt3 : ByteArray := ⟨#[103, 32, 91, 120, 32, 61, 32, 121, 93, 59, 32, 115, 116, 111, 112]⟩
def txt4 : ByteArray := ⟨#[103, 32, 33, 120, 32, 63, 121, 32, 58, 32, 110, 97, 116, 32, 91, 120, 32, 61, 32, 121, 93, 32, 123, 50, 46, 46, 53, 125, 59, 32, 115, 116, 111, 112]⟩
def want1 : Nd := (.mk 23 0 ⟨#[]⟩ [(.mk 22 0 ⟨#[]⟩ [(.mk 7 0 ⟨#[97]⟩ [] 0 0), (.mk 8 0 ⟨#[]⟩ [] 0 0), (.mk 8 0 ⟨#[]⟩ [] 0 0), (.mk 8 0 ⟨#[]⟩ [] 0 0), (.mk 22 0 ⟨#[]⟩ [(.mk 7 0 ⟨#[98]⟩ [] 0 0), (.mk 8 0 ⟨#[]⟩ [] 0 0), (.mk 8 0 ⟨#[]⟩ [] 0 0), (.mk 8 0 ⟨#[]⟩ [] 0 0), (.mk 20 0 ⟨#[]⟩ [] 0 0)] 0 0)] 0 0), (.mk 22 0 ⟨#[]⟩ [(.mk 7 0 ⟨#[99]⟩ [] 0 0), (.mk 8 0 ⟨#[]⟩ [] 0 0), (.mk 8 0 ⟨#[]⟩ [] 0 0), (.mk 8 0 ⟨#[]⟩ [] 0 0), (.mk 20 0 ⟨#[]⟩ [] 0 0)] 0 0)] 0 0)
theorem beh1 : ∃ n at_, givenP lxP pBehaviour kdP [] txt1 = ⟨n, at_, 0⟩ ∧ same n want1 = true := by
  have h : (match givenP lxP pBehaviour kdP [] txt1 with | ⟨n, _, e⟩ => decide (e = 0) && same n want1) = true := by decide +kernel
  generalize givenP lxP pBehaviour kdP [] txt1 = r at h ⊢
  obtain ⟨n, a, e⟩ := r
  dsimp only at h
  rw [Bool.and_eq_true, decide_eq_true_eq] at h
  obtain ⟨rfl, h⟩ := h
  exact ⟨n, a, rfl, h⟩
theorem any_some {α : Type} {o : Option α} {p : α → Bool} (h : o.any p = true) : ∃ x, o = some x ∧ p x = true := by
  cases o with
  | none => cases h
  | some x => exact ⟨x, rfl, h⟩
theorem beh2 : ∃ n at_ y z, givenP lxP pBehaviour kdP [] txt2 = ⟨n, at_, 0⟩ ∧ n.kind = 26 ∧ n.l[1]? = some y ∧ y.kind = 24 ∧ y.s = ⟨#[124, 124, 124]⟩ ∧ n.l[2]? = some z ∧ z.kind = 32 ∧ z.s = ⟨#[82]⟩ := by
  have h : (match givenP lxP pBehaviour kdP [] txt2 with | ⟨n, _, e⟩ => decide (e = 0) && (decide (n.kind = 26) && ((n.l[1]?).any (fun y => decide (y.kind = 24) && decide (y.s = ⟨#[124, 124, 124]⟩)) && (n.l[2]?).any (fun y => decide (y.kind = 32) && decide (y.s = ⟨#[82]⟩))))) = true := by decide +kernel
  generalize givenP lxP pBehaviour kdP [] txt2 = r at h ⊢
  obtain ⟨n, a, e⟩ := r
  dsimp only at h
  rw [Bool.and_eq_true, decide_eq_true_eq, Bool.and_eq_true, decide_eq_true_eq, Bool.and_eq_true] at h
  obtain ⟨rfl, h1, h2, h3⟩ := h
  obtain ⟨y, hy, h2⟩ := any_some h2
  obtain ⟨z, hz, h3⟩ := any_some h3
  rw [Bool.and_eq_true, decide_eq_true_eq, decide_eq_true_eq] at h2 h3
  exact ⟨n, a, y, z, rfl, h1, hy, h2.1, h2.2, hz, h3.1, h3.2⟩
theorem beh3 : ∃ n, givenP lxP pBehaviour kdP [] txt3 = ⟨n, 5, 20⟩ := by
  have h : (match givenP lxP pBehaviour kdP [] txt3 with | ⟨n, a, e⟩ => decide (a = 5) && decide (e = 20)) = true := by decide +kernel
  generalize givenP lxP pBehaviour kdP [] txt3 = r at h ⊢
  obtain ⟨n, a, e⟩ := r
  dsimp only at h
  rw [Bool.and_eq_true, decide_eq_true_eq, decide_eq_true_eq] at h
  obtain ⟨rfl, rfl⟩ := h
  exact ⟨n, rfl⟩
theorem beh4 : ∃ n at_ x y z u, givenP lxP pBehaviour kdP [] txt4 = ⟨n, at_, 0⟩ ∧ n.kind = 22 ∧ n.l[1]? = some x ∧ x.l.length = 2 ∧ n.l[2]? = some y ∧ y.l.length = 1 ∧ n.l[3]? = some z ∧ z.l.length = 1 ∧ z.l[0]? = some u ∧ u.n = 3 := by
  have h : (match givenP lxP pBehaviour kdP [] txt4 with | ⟨n, _, e⟩ => decide (e = 0) && (decide (n.kind = 22) && ((n.l[1]?).any (fun y => decide (y.l.length = 2)) && ((n.l[2]?).any (fun y => decide (y.l.length = 1)) && (n.l[3]?).any (fun y => decide (y.l.length = 1) && (y.l[0]?).any fun u => decide (u.n = 3)))))) = true := by decide +kernel
  generalize givenP lxP pBehaviour kdP [] txt4 = r at h ⊢
  obtain ⟨n, a, e⟩ := r
  dsimp only at h
  rw [Bool.and_eq_true, decide_eq_true_eq, Bool.and_eq_true, decide_eq_true_eq, Bool.and_eq_true, Bool.and_eq_true] at h
  obtain ⟨rfl, h1, h2, h3, h4⟩ := h
  obtain ⟨x, hx, h2⟩ := any_some h2
  obtain ⟨y, hy, h3⟩ := any_some h3
  obtain ⟨z, hz, h4⟩ := any_some h4
  rw [Bool.and_eq_true, decide_eq_true_eq] at h4
  obtain ⟨u, hu, h5⟩ := any_some h4.2
  rw [decide_eq_true_eq] at h2 h3 h5
  exact ⟨n, a, x, y, z, u, rfl, h1, hx, h2, hy, h3, hz, h4.1, hu, h5⟩
end Go.Proofs.YtjcocblohiglbaaGreatDoor
/- The examples of the chapter: the walk of sane. Conditions: none. -/
namespace Go.Proofs.YtjcocblohiglbaaGreatDoor
open Go.Dp
set_option linter.unusedVariables false
set_option linter.unusedSimpArgs false
set_option maxRecDepth 20000 in set_option maxHeartbeats 4000000 in
theorem sane_end : AW Tryz.prog GL Tryz.f7.ntmps (sndC (sndC (sndC (sndC (bodyC Tryz.f7))))) (Post Tryz.prog Tryz.f7 (fun o τ => o = .ret (boo true) ∧ τ = [])) [] [] := by
  obtain ⟨n1, a1, h1, hs1⟩ := beh1
  obtain ⟨n2, a2, y2, z2, h2, p1, p2, p3, p4, p5, p6, p7⟩ := beh2
  obtain ⟨n3, h3⟩ := beh3
  obtain ⟨n4, a4, x4, y4, z4, u4, h4, q1, q2, q3, q4, q5, q6, q7, q8, q9⟩ := beh4
  have b1 := sim_Behaviour0 txt1 (by decide +kernel)
  have b2 := sim_Behaviour0 txt2 (by decide +kernel)
  have b3 := sim_Behaviour0 txt3 (by decide +kernel)
  have b4 := sim_Behaviour0 txt4 (by decide +kernel)
  have c1 := read_cnt lxP pBehaviour kdP [] txt1
  rw [h1] at b1 c1
  rw [h2] at b2
  rw [h3] at b3
  rw [h4] at b4
  unfold txt1 enR at b1
  unfold txt2 enR at b2
  unfold txt3 enR at b3
  unfold txt4 enR at b4
  have gS := sim_SameN GL n1 want1 (by dsimp only at c1; omega) (by decide +kernel)
  rw [hs1] at gS
  dsimp only at b1 b2 b3 b4
  have l2 := encs_get p2
  have m2 := encs_get p5
  have l4 := encs_get q2
  have m4 := encs_get q4
  have k4 := encs_get q6
  have j4 := encs_get q8
  have e4 := encs_length x4.l
  have f4 := encs_length y4.l
  have g4 := encs_length z4.l
  rw [enc_ag] at b1 b2 b3 b4 gS l2 m2 l4 m4 k4 j4
  clear c1
  show AW _ _ _ (Code.seq _ _) _ _ _
  repeat (any_goals (first | refine s_at ?_ | refine s_skip ?_ | refine s_off ?_ | refine s_offn ?_ | refine s_move ?_ | refine s_assign ?_ | refine s_load ?_ | refine s_loade ?_ | refine s_loadd ?_ | refine s_pick1 ?_ | refine s_pick0 ?_ | refine s_pure ?_ | refine s_nil ?_ | refine aw_seq ?_ | refine aw_seqr ?_ | refine aw_block ?_ | refine aw_true ?_ | refine aw_false ?_ | refine s_alloc (fun _ => ?_) | refine s_allocd (fun _ => ?_) | refine s_box (fun _ => ?_) | refine s_box1 (fun _ => ?_) | refine s_store' ?_ | refine s_call0 b1 ?_ | refine s_call0 b2 ?_ | refine s_call0 b3 ?_ | refine s_call0 b4 ?_ | refine s_callv0 (sim_act GL _ _ _ _ _ rfl _ _) ?_ | refine s_call0 gS ?_ | refine s_drawn 17 [] ?_ | refine s_litq ?_ | refine s_elem 1 l2 ?_ | refine s_elem 2 m2 ?_ | refine s_elem 1 l4 ?_ | refine s_elem 2 m4 ?_ | refine s_elem 3 k4 ?_ | refine s_elem 0 j4 ?_ | (refine s_cmp (fun h => ?_) (fun h => ?_) <;> try (exfalso; first | omega | exact h rfl | exact h p1 | exact h p3 | exact h p6 | exact h q1)) | (refine s_cmps (fun h => ?_) (fun h => ?_) <;> try (exfalso; first | exact h p4 | exact h p7))))
  refine aw_ret ?_; (repeat (first | refine then_ret ?_ | refine inb_ret ?_))
  exact post_of ⟨rfl, rfl⟩ rvs pks
end Go.Proofs.YtjcocblohiglbaaGreatDoor
/- The examples of the chapter: sane gives true. Conditions: none. -/
namespace Go.Proofs.YtjcocblohiglbaaGreatDoor
open Go.Dp
set_option linter.unusedVariables false
set_option linter.unusedSimpArgs false
def el1 (x : ByteArray × Nd) : AV := .ag (str x.1 :: enN x.2)
def el2 (x : ByteArray × Int × Int) : AV := .ag [str x.1, i64 x.2.1, i64 x.2.2]
theorem table_ok : OpsOk tableM := by
  refine ⟨by decide, fun m hm => ?_⟩
  have h : tableM.all goodM = true := by decide +kernel
  have := List.all_eq_true.1 h m hm
  unfold goodM at this
  rw [Bool.and_eq_true, decide_eq_true_eq, Bool.not_eq_true'] at this
  refine ⟨this.1, fun s hs => ?_⟩
  have h2 := List.any_eq_false.1 this.2 s hs
  simp at h2
  exact h2
theorem sane1_small : ∀ x, x ∈ sane1 → x.1.size ≤ 1000 ∧ cnt x.2 ≤ 1000 := by
  have h : (sane1.all fun x => decide (x.1.size ≤ 1000) && decide (cnt x.2 ≤ 1000)) = true := by decide +kernel
  intro x hx
  have := List.all_eq_true.1 h x hx
  simpa using this
theorem sane2_small : ∀ x, x ∈ sane2 → x.1.size ≤ 1000 := by
  have h : (sane2.all fun x => decide (x.1.size ≤ 1000)) = true := by decide +kernel
  intro x hx
  have := List.all_eq_true.1 h x hx
  simpa using this
theorem enNl_shape (l : List Nd) : enNl l = .sc (.slice none 0 0) ∨ ∃ R, enNl l = .sl 6 R := by
  cases l with
  | nil => exact .inl (by rw [enNl])
  | cons x l => exact .inr ⟨_, by rw [enNl]⟩
set_option maxRecDepth 20000 in set_option maxHeartbeats 4000000 in
theorem sane_two : AW Tryz.prog GL Tryz.f7.ntmps (sndC (sndC (sndC (bodyC Tryz.f7)))) (Post Tryz.prog Tryz.f7 (fun o τ => o = .ret (boo true) ∧ τ = [])) [] [] := by
  have hlen : (sane2.map el2).length = 5 := by decide +kernel
  have hlen2 : sane2.length = 5 := by decide +kernel
  have hend := sane_end
  have gt := sim_table GL
  show AW _ _ _ (Code.seq _ _) _ _ _
  repeat (any_goals (first | refine s_at ?_ | refine s_skip ?_ | refine s_off ?_ | refine s_offn ?_ | refine s_move ?_ | refine s_assign ?_ | refine s_load ?_ | refine s_loade ?_ | refine s_loadd ?_ | refine s_pick1 ?_ | refine s_pick0 ?_ | refine s_pure ?_ | refine s_nil ?_ | refine aw_seq ?_ | refine aw_seqr ?_ | refine aw_block ?_ | refine aw_true ?_ | refine aw_false ?_ | refine s_alloc (fun _ => ?_) | refine s_allocd (fun _ => ?_) | refine s_box (fun _ => ?_) | refine s_box1 (fun _ => ?_) | refine s_store' ?_ | refine s_litq ?_))
  refine aw_loop (fun i : Nat => [(143, .sl 3 (sane2.map el2)), (144, i64 5), (145, i64 (i : Int))]) (fun _ => []) (fun i => i ≤ 5) (fun i => 5 - i) 0 (by omega) els [] (List.Perm.refl _) ?_
  intro i i1
  try dsimp only at i1
  by_cases hi : i < 5
  · obtain ⟨x, hx⟩ : ∃ x, sane2[i]? = some x := ⟨sane2[i]'(by omega), List.getElem?_eq_getElem (by omega)⟩
    have hmem := List.mem_of_getElem? hx
    have hok := List.all_eq_true.1 sane2_ok x hmem
    have hsz := sane2_small x hmem
    have hg : (sane2.map el2)[i]? = some (el2 x) := by rw [List.getElem?_map, hx]; rfl
    have gE := sim_ExprG x.1 tableM (by omega) table_ok
    unfold okSane2 at hok
    generalize givenP lxP pExpr kdP tableM x.1 = r at hok gE
    obtain ⟨n, at_, e⟩ := r
    dsimp only at hok
    rw [Bool.and_eq_true, decide_eq_true_eq, decide_eq_true_eq] at hok
    obtain ⟨rfl, rfl⟩ := hok
    unfold enR at gE
    dsimp only at gE
    rw [enc_ag] at gE
    unfold el2 at hg
    repeat (any_goals (first | refine s_at ?_ | refine s_skip ?_ | refine s_off ?_ | refine s_offn ?_ | refine s_move ?_ | refine s_assign ?_ | refine s_load ?_ | refine s_loade ?_ | refine s_loadd ?_ | refine s_pick1 ?_ | refine s_pick0 ?_ | refine s_pure ?_ | refine s_nil ?_ | refine aw_seq ?_ | refine aw_seqr ?_ | refine aw_block ?_ | refine aw_true ?_ | refine aw_false ?_ | refine s_alloc (fun _ => ?_) | refine s_allocd (fun _ => ?_) | refine s_box (fun _ => ?_) | refine s_box1 (fun _ => ?_) | refine s_store' ?_ | refine s_elem i hg ?_ | refine s_drawn 12 [9] ?_ | refine s_call0 gt ?_ | refine s_call0 gE ?_ | (refine s_cmp (fun h => ?_) (fun h => ?_) <;> try (exfalso; first | omega | exact h rfl)) | refine s_add ?_))
    refine d_end fun env' he => ?_
    (repeat (first | refine inb_nor ?_ | refine then_nor ?_))
    refine ⟨i + 1, _, by omega, by omega, EnvLe.of_eq he els, Picks.perm pks⟩
  · repeat (any_goals (first | refine s_at ?_ | refine s_skip ?_ | refine s_off ?_ | refine s_offn ?_ | refine s_move ?_ | refine s_assign ?_ | refine s_load ?_ | refine s_loade ?_ | refine s_loadd ?_ | refine s_pick1 ?_ | refine s_pick0 ?_ | refine s_pure ?_ | refine s_nil ?_ | refine aw_seq ?_ | refine aw_seqr ?_ | refine aw_block ?_ | refine aw_true ?_ | refine aw_false ?_ | refine s_alloc (fun _ => ?_) | refine s_allocd (fun _ => ?_) | refine s_box (fun _ => ?_) | refine s_box1 (fun _ => ?_) | refine s_store' ?_ | (refine s_cmp (fun h => ?_) (fun h => ?_) <;> try (exfalso; omega))))
    refine aw_exit ?_; (repeat refine then_exit ?_); refine inb_exit ?_; refine then_nor ?_
    exact aw_to hend els pks
set_option maxRecDepth 20000 in set_option maxHeartbeats 4000000 in
theorem sim_sane : Sim Tryz.prog GL 7 [] [] (fun o τ => o = .ret (boo true) ∧ τ = []) := by
  have hlen : (sane1.map el1).length = 9 := by decide +kernel
  have hlen2 : sane1.length = 9 := by decide +kernel
  have htwo := sane_two
  have gt := sim_table GL
  refine sim_body Tryz.func7 rfl rfl rfl ?_
  repeat (any_goals (first | refine s_at ?_ | refine s_skip ?_ | refine s_off ?_ | refine s_offn ?_ | refine s_move ?_ | refine s_assign ?_ | refine s_load ?_ | refine s_loade ?_ | refine s_loadd ?_ | refine s_pick1 ?_ | refine s_pick0 ?_ | refine s_pure ?_ | refine s_nil ?_ | refine aw_seq ?_ | refine aw_seqr ?_ | refine aw_block ?_ | refine aw_true ?_ | refine aw_false ?_ | refine s_alloc (fun _ => ?_) | refine s_allocd (fun _ => ?_) | refine s_box (fun _ => ?_) | refine s_box1 (fun _ => ?_) | refine s_store' ?_ | refine s_litq ?_ | refine s_call0 (sim_app0 GL _) ?_ | refine s_call0 (sim_app GL _ _) ?_ | refine s_drawn 73 [] ?_))
  refine aw_loop (fun i : Nat => [(97, .sl 7 (sane1.map el1)), (98, i64 9), (99, i64 (i : Int))]) (fun _ => []) (fun i => i ≤ 9) (fun i => 9 - i) 0 (by omega) els _ (List.Perm.refl _) ?_
  intro i i1
  try dsimp only at i1
  by_cases hi : i < 9
  · obtain ⟨x, hx⟩ : ∃ x, sane1[i]? = some x := ⟨sane1[i]'(by omega), List.getElem?_eq_getElem (by omega)⟩
    have hmem := List.mem_of_getElem? hx
    have hok := List.all_eq_true.1 sane1_ok x hmem
    have hsz := sane1_small x hmem
    have hg : (sane1.map el1)[i]? = some (el1 x) := by rw [List.getElem?_map, hx]; rfl
    have gE := sim_ExprG x.1 tableM (by omega) table_ok
    have hcn := read_cnt lxP pExpr kdP tableM x.1
    unfold okSane1 at hok
    generalize givenP lxP pExpr kdP tableM x.1 = r at hok gE hcn
    obtain ⟨n, at_, e⟩ := r
    dsimp only at hok hcn
    rw [Bool.and_eq_true, Bool.and_eq_true, Bool.and_eq_true, Bool.and_eq_true, decide_eq_true_eq, decide_eq_true_eq, decide_eq_true_eq, decide_eq_true_eq] at hok
    obtain ⟨⟨⟨⟨rfl, rfl⟩, hs⟩, hb⟩, he⟩ := hok
    have gS := sim_SameN GL n x.2 (by omega) (by omega)
    rw [hs] at gS
    unfold enR at gE
    dsimp only at gE
    rw [enc_ag] at gE gS
    obtain ⟨tx, k, m, s, l, b, e⟩ := x
    dsimp only at hg gE gS he
    have hE : enN (.mk k m s l b e) = nd k m s (enNl l) b e := by rw [enN]
    unfold el1 at hg
    dsimp only at hg
    rw [hE] at hg gS
    rcases enNl_shape l with hL | ⟨L, hL⟩ <;>
    · rw [hL] at hg gS
      repeat (any_goals (first | refine s_at ?_ | refine s_skip ?_ | refine s_off ?_ | refine s_offn ?_ | refine s_move ?_ | refine s_assign ?_ | refine s_load ?_ | refine s_loade ?_ | refine s_loadd ?_ | refine s_pick1 ?_ | refine s_pick0 ?_ | refine s_pure ?_ | refine s_nil ?_ | refine aw_seq ?_ | refine aw_seqr ?_ | refine aw_block ?_ | refine aw_true ?_ | refine aw_false ?_ | refine s_alloc (fun _ => ?_) | refine s_allocd (fun _ => ?_) | refine s_box (fun _ => ?_) | refine s_box1 (fun _ => ?_) | refine s_store' ?_ | refine s_elem i hg ?_ | refine s_drawn 12 [9] ?_ | refine s_call0 gt ?_ | refine s_call0 gE ?_ | refine s_call0 gS ?_ | (refine s_cmp (fun h => ?_) (fun h => ?_) <;> try (exfalso; first | omega | exact h rfl)) | refine s_add ?_))
      refine d_end fun env' he => ?_
      (repeat (first | refine inb_nor ?_ | refine then_nor ?_))
      refine ⟨i + 1, _, by omega, by omega, EnvLe.of_eq he els, Picks.perm pks⟩
  · repeat (any_goals (first | refine s_at ?_ | refine s_skip ?_ | refine s_off ?_ | refine s_offn ?_ | refine s_move ?_ | refine s_assign ?_ | refine s_load ?_ | refine s_loade ?_ | refine s_loadd ?_ | refine s_pick1 ?_ | refine s_pick0 ?_ | refine s_pure ?_ | refine s_nil ?_ | refine aw_seq ?_ | refine aw_seqr ?_ | refine aw_block ?_ | refine aw_true ?_ | refine aw_false ?_ | refine s_alloc (fun _ => ?_) | refine s_allocd (fun _ => ?_) | refine s_box (fun _ => ?_) | refine s_box1 (fun _ => ?_) | refine s_store' ?_ | (refine s_cmp (fun h => ?_) (fun h => ?_) <;> try (exfalso; omega))))
    refine aw_exit ?_; (repeat refine then_exit ?_); refine inb_exit ?_; refine then_nor ?_
    exact aw_to htwo els pks
end Go.Proofs.YtjcocblohiglbaaGreatDoor
