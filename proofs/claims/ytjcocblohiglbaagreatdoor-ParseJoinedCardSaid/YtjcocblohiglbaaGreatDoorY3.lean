/- The law ParseJoined: its walk, and entered from a world. Printed by gen_j.py. Conditions: none. -/
import Derived.Test.YtjcocblohiglbaaGreatDoorQ2
import Derived.Test.YtjcocblohiglbaaGreatDoorY2
namespace Go.Proofs.YtjcocblohiglbaaGreatDoor
open Go.Dp Go.RowKit
set_option linter.unusedVariables false
set_option linter.unusedSimpArgs false
section
variable {P : Program} [Tys P] {I : World → Prop} {N : Nat} {ops : Array Oper} {md : Md} {Q : Exit → Env → List Rs → Prop} {H : List (Nat × Option Rs)} {i : Nat} {c : List Nat} {env : Env} {σ : List Rs} {d : Option Tmp} {tt : TypeId} {ps : String} {af : Array Edge} {gd : Option (Nat × Bool)}
omit [Tys P] in
theorem rd_rem {t u : TypeId} {x y : Operand} {a b r : Int} (hb : b ≠ 0) (hr : a.tmod b = r) (hx : env.val x = .sc (.int .i64 a)) (hy : env.val y = .sc (.int .i64 b)) : RdS P I ⟨d, .binOp .rem t x y u, tt, ps, af, gd⟩ env none (.sc (.int .i64 r)) := by
  refine rd_pure (fun g ac w hE => ?_)
  have e1 := hE x (by simp [Op.operands, Call.operands])
  have e2 := hE y (by simp [Op.operands, Call.operands])
  rw [hx] at e1
  rw [hy] at e2
  refine ⟨_, ?_, .sc _⟩
  simp [execOp, e1.bool, e2.bool, eqGuard, binOp, Op.intArith, Op.intDiv, hb, hr]
omit [Tys P] in
theorem s_rem {t u : TypeId} {x y : Operand} {a b r : Int} (hr : a.tmod b = r) (k : Der P I N ops md Q H c (env.put d (.sc (.int .i64 r))) σ) (hx : env.val x = .sc (.int .i64 a) := by rfl) (hy : env.val y = .sc (.int .i64 b) := by rfl) (hb : b ≠ 0 := by decide) (hm : md.okR i = true := by rfl) :
    At P I N ops md Q H i c ⟨d, .binOp .rem t x y u, tt, ps, af, gd⟩ env σ := at_rd (rd_rem hb hr hx hy) hm k
end
theorem five (kind : Int) : ∃ r k : Int, kind.tmod 5 = r ∧ -5 < r ∧ r < 5 ∧ (r + 5).tmod 5 = k ∧ (k = 0 ∨ k = 1 ∨ k = 2 ∨ k = 3 ∨ k = 4) := by
  have h1 := Int.tmod_lt_of_pos kind (show (0 : Int) < 5 by decide)
  have h2 := Int.lt_tmod_of_pos kind (show (0 : Int) < 5 by decide)
  generalize kind.tmod 5 = r at h1 h2
  refine ⟨r, _, rfl, h2, h1, rfl, ?_⟩
  have : r = -4 ∨ r = -3 ∨ r = -2 ∨ r = -1 ∨ r = 0 ∨ r = 1 ∨ r = 2 ∨ r = 3 ∨ r = 4 := by omega
  rcases this with rfl | rfl | rfl | rfl | rfl | rfl | rfl | rfl | rfl <;> decide
theorem encs2 (x y : Nd) : encs [x, y] = [enc x, enc y] := by simp only [encs]
theorem encs3 (x y z : Nd) : encs [x, y, z] = [enc x, enc y, enc z] := by simp only [encs]
theorem sub_leaf {k n : Int} {s : ByteArray} {b e : Int} : Sub (.ag (nd k n s (.sc (.slice none 0 0)) b e)) (enc (.mk k n s [] b e)) := sub_enc (by rw [encs]; exact .nil 6)
theorem join_fits (a b : ByteArray) {g : ByteArray} (za : a.size ≤ 1000) (zg : g.size ≤ 10) (zb : b.size ≤ 1000) : ((⟨#[40, 32]⟩ : ByteArray)).size + a.size ≤ 9223372036854775807 ∧ ((⟨#[40, 32]⟩ : ByteArray) ++ a).size + (⟨#[32, 41, 32]⟩ : ByteArray).size ≤ 9223372036854775807 ∧ (((⟨#[40, 32]⟩ : ByteArray) ++ a) ++ (⟨#[32, 41, 32]⟩ : ByteArray)).size + g.size ≤ 9223372036854775807 ∧ ((((⟨#[40, 32]⟩ : ByteArray) ++ a) ++ (⟨#[32, 41, 32]⟩ : ByteArray)) ++ g).size + (⟨#[32, 40, 32]⟩ : ByteArray).size ≤ 9223372036854775807 ∧ (((((⟨#[40, 32]⟩ : ByteArray) ++ a) ++ (⟨#[32, 41, 32]⟩ : ByteArray)) ++ g) ++ (⟨#[32, 40, 32]⟩ : ByteArray)).size + b.size ≤ 9223372036854775807 ∧ ((((((⟨#[40, 32]⟩ : ByteArray) ++ a) ++ (⟨#[32, 41, 32]⟩ : ByteArray)) ++ g) ++ (⟨#[32, 40, 32]⟩ : ByteArray)) ++ b).size + (⟨#[32, 41]⟩ : ByteArray).size ≤ 9223372036854775807 := by
  refine ⟨?_, ?_, ?_, ?_, ?_, ?_⟩
  · try simp only [ByteArray.size_append]
    show 2 + a.size ≤ _
    omega
  · try simp only [ByteArray.size_append]
    show 2 + a.size + 3 ≤ _
    omega
  · try simp only [ByteArray.size_append]
    show 2 + a.size + 3 + g.size ≤ _
    omega
  · try simp only [ByteArray.size_append]
    show 2 + a.size + 3 + g.size + 3 ≤ _
    omega
  · try simp only [ByteArray.size_append]
    show 2 + a.size + 3 + g.size + 3 + b.size ≤ _
    omega
  · try simp only [ByteArray.size_append]
    show 2 + a.size + 3 + g.size + 3 + b.size + 2 ≤ _
    omega
/-- What the walk has to show from the sign on. -/
def TailJ (O : List AV) (a b : ByteArray) (x y : Nd) (b9 b12 : Nat) (k : Int) : Prop :=
  AW Tryz.prog GL Tryz.f5.ntmps (sndC (sndC (sndC (sndC (sndC (sndC (sndC (sndC (sndC ((bodyC Tryz.f5))))))))))) (Post Tryz.prog Tryz.f5 (fun o τ => o = .ret (boo true) ∧ τ = []))
    [(0, str a), (1, str b), (2, .sl 5 O), (9, ptr b9), (12, ptr b12), (19, i64 k)] [.box b9 (nd x.kind x.n x.s (.sl 6 (encs x.l)) x.b x.e) 27, .box b12 (nd y.kind y.n y.s (.sl 6 (encs y.l)) y.b y.e) 27]
set_option maxRecDepth 20000 in set_option maxHeartbeats 4000000 in
theorem joined_tail0 (a b : ByteArray) (za : a.size ≤ 1000) (zb : b.size ≤ 1000) (O : List AV) (x y m : Nd) (b9 b12 : Nat)
    (gB : Sim Tryz.prog GL 9 [str (joinT a ⟨#[91, 93]⟩ b), .sl 5 O] [] (fun o τ => o = .ret (.tu [.ag (nd m.kind m.n m.s (.sl 6 (encs m.l)) m.b m.e), i64 0, i64 0]) ∧ τ = []))
    (gS : Sim Tryz.prog GL 12 [.ag (nd m.kind m.n m.s (.sl 6 (encs m.l)) m.b m.e), .ag (nd 23 0 ⟨#[]⟩ (.sl 6 [.ag (nd x.kind x.n x.s (.sl 6 (encs x.l)) x.b x.e), .ag (nd y.kind y.n y.s (.sl 6 (encs y.l)) y.b y.e)]) 0 0)] [] (fun o τ => o = .ret (boo true) ∧ τ = [])) :
    TailJ O a b x y b9 b12 0 := by
  unfold joinT at gB
  obtain ⟨q1, q2, q3, q4, q5, q6⟩ := join_fits a b (g := ⟨#[91, 93]⟩) za (by decide) zb
  show AW _ _ _ (Code.seq _ _) _ _ _
  repeat (any_goals (first | refine s_at ?_ | refine s_skip ?_ | refine s_off ?_ | refine s_offn ?_ | refine s_move ?_ | refine s_assign ?_ | refine s_load ?_ | refine s_loade ?_ | refine s_loadd ?_ | refine s_pick1 ?_ | refine s_pick0 ?_ | refine s_pure ?_ | refine s_nil ?_ | refine aw_seq ?_ | refine aw_seqr ?_ | refine aw_block ?_ | refine aw_true ?_ | refine aw_false ?_ | refine s_alloc (fun _ => ?_) | refine s_allocd (fun _ => ?_) | refine s_box (fun _ => ?_) | refine s_box1 (fun _ => ?_) | refine s_store' ?_ | refine s_elem 0 rfl ?_ | refine s_call0 gB ?_ | refine s_call0 gS ?_ | refine s_litq ?_ | refine s_concat q1 ?_ | refine s_concat q2 ?_ | refine s_concat q3 ?_ | refine s_concat q4 ?_ | refine s_concat q5 ?_ | refine s_concat q6 ?_ | (refine s_cmp (fun h => ?_) (fun h => ?_) <;> try (exfalso; first | omega | exact h rfl))))
  refine aw_ret ?_; (repeat (first | refine then_ret ?_ | refine inb_ret ?_))
  exact post_of ⟨rfl, rfl⟩ rvs pks
set_option maxRecDepth 20000 in set_option maxHeartbeats 4000000 in
theorem joined_tail1 (a b : ByteArray) (za : a.size ≤ 1000) (zb : b.size ≤ 1000) (O : List AV) (x y m : Nd) (b9 b12 : Nat)
    (gB : Sim Tryz.prog GL 9 [str (joinT a ⟨#[91, 62]⟩ b), .sl 5 O] [] (fun o τ => o = .ret (.tu [.ag (nd m.kind m.n m.s (.sl 6 (encs m.l)) m.b m.e), i64 0, i64 0]) ∧ τ = []))
    (gS : Sim Tryz.prog GL 12 [.ag (nd m.kind m.n m.s (.sl 6 (encs m.l)) m.b m.e), .ag (nd 27 0 ⟨#[]⟩ (.sl 6 [.ag (nd x.kind x.n x.s (.sl 6 (encs x.l)) x.b x.e), .ag (nd y.kind y.n y.s (.sl 6 (encs y.l)) y.b y.e)]) 0 0)] [] (fun o τ => o = .ret (boo true) ∧ τ = [])) :
    TailJ O a b x y b9 b12 1 := by
  unfold joinT at gB
  obtain ⟨q1, q2, q3, q4, q5, q6⟩ := join_fits a b (g := ⟨#[91, 62]⟩) za (by decide) zb
  show AW _ _ _ (Code.seq _ _) _ _ _
  repeat (any_goals (first | refine s_at ?_ | refine s_skip ?_ | refine s_off ?_ | refine s_offn ?_ | refine s_move ?_ | refine s_assign ?_ | refine s_load ?_ | refine s_loade ?_ | refine s_loadd ?_ | refine s_pick1 ?_ | refine s_pick0 ?_ | refine s_pure ?_ | refine s_nil ?_ | refine aw_seq ?_ | refine aw_seqr ?_ | refine aw_block ?_ | refine aw_true ?_ | refine aw_false ?_ | refine s_alloc (fun _ => ?_) | refine s_allocd (fun _ => ?_) | refine s_box (fun _ => ?_) | refine s_box1 (fun _ => ?_) | refine s_store' ?_ | refine s_elem 1 rfl ?_ | refine s_call0 gB ?_ | refine s_call0 gS ?_ | refine s_litq ?_ | refine s_concat q1 ?_ | refine s_concat q2 ?_ | refine s_concat q3 ?_ | refine s_concat q4 ?_ | refine s_concat q5 ?_ | refine s_concat q6 ?_ | (refine s_cmp (fun h => ?_) (fun h => ?_) <;> try (exfalso; first | omega | exact h rfl))))
  refine aw_ret ?_; (repeat (first | refine then_ret ?_ | refine inb_ret ?_))
  exact post_of ⟨rfl, rfl⟩ rvs pks
set_option maxRecDepth 20000 in set_option maxHeartbeats 4000000 in
theorem joined_tail2 (a b : ByteArray) (za : a.size ≤ 1000) (zb : b.size ≤ 1000) (O : List AV) (x y m : Nd) (b9 b12 : Nat)
    (gB : Sim Tryz.prog GL 9 [str (joinT a ⟨#[62, 62]⟩ b), .sl 5 O] [] (fun o τ => o = .ret (.tu [.ag (nd m.kind m.n m.s (.sl 6 (encs m.l)) m.b m.e), i64 0, i64 0]) ∧ τ = []))
    (gS : Sim Tryz.prog GL 12 [.ag (nd m.kind m.n m.s (.sl 6 (encs m.l)) m.b m.e), .ag (nd 26 0 ⟨#[]⟩ (.sl 6 [.ag (nd 8 0 ⟨#[]⟩ (.sc (.slice none 0 0)) 0 0), .ag (nd x.kind x.n x.s (.sl 6 (encs x.l)) x.b x.e), .ag (nd y.kind y.n y.s (.sl 6 (encs y.l)) y.b y.e)]) 0 0)] [] (fun o τ => o = .ret (boo true) ∧ τ = [])) :
    TailJ O a b x y b9 b12 2 := by
  unfold joinT at gB
  obtain ⟨q1, q2, q3, q4, q5, q6⟩ := join_fits a b (g := ⟨#[62, 62]⟩) za (by decide) zb
  show AW _ _ _ (Code.seq _ _) _ _ _
  repeat (any_goals (first | refine s_at ?_ | refine s_skip ?_ | refine s_off ?_ | refine s_offn ?_ | refine s_move ?_ | refine s_assign ?_ | refine s_load ?_ | refine s_loade ?_ | refine s_loadd ?_ | refine s_pick1 ?_ | refine s_pick0 ?_ | refine s_pure ?_ | refine s_nil ?_ | refine aw_seq ?_ | refine aw_seqr ?_ | refine aw_block ?_ | refine aw_true ?_ | refine aw_false ?_ | refine s_alloc (fun _ => ?_) | refine s_allocd (fun _ => ?_) | refine s_box (fun _ => ?_) | refine s_box1 (fun _ => ?_) | refine s_store' ?_ | refine s_elem 2 rfl ?_ | refine s_call0 gB ?_ | refine s_call0 gS ?_ | refine s_litq ?_ | refine s_drawn 6 [5] ?_ | refine s_call0 (sim_lst0 GL) ?_ | refine s_lito ?_ | refine s_concat q1 ?_ | refine s_concat q2 ?_ | refine s_concat q3 ?_ | refine s_concat q4 ?_ | refine s_concat q5 ?_ | refine s_concat q6 ?_ | (refine s_cmp (fun h => ?_) (fun h => ?_) <;> try (exfalso; first | omega | exact h rfl))))
  refine aw_ret ?_; (repeat (first | refine then_ret ?_ | refine inb_ret ?_))
  exact post_of ⟨rfl, rfl⟩ rvs pks
set_option maxRecDepth 20000 in set_option maxHeartbeats 4000000 in
theorem joined_tail3 (a b : ByteArray) (za : a.size ≤ 1000) (zb : b.size ≤ 1000) (O : List AV) (x y m : Nd) (b9 b12 : Nat)
    (gB : Sim Tryz.prog GL 9 [str (joinT a ⟨#[124, 124, 124]⟩ b), .sl 5 O] [] (fun o τ => o = .ret (.tu [.ag (nd m.kind m.n m.s (.sl 6 (encs m.l)) m.b m.e), i64 0, i64 0]) ∧ τ = []))
    (gS : Sim Tryz.prog GL 12 [.ag (nd m.kind m.n m.s (.sl 6 (encs m.l)) m.b m.e), .ag (nd 24 0 ⟨#[124, 124, 124]⟩ (.sl 6 [.ag (nd 8 0 ⟨#[]⟩ (.sc (.slice none 0 0)) 0 0), .ag (nd x.kind x.n x.s (.sl 6 (encs x.l)) x.b x.e), .ag (nd y.kind y.n y.s (.sl 6 (encs y.l)) y.b y.e)]) 0 0)] [] (fun o τ => o = .ret (boo true) ∧ τ = [])) :
    TailJ O a b x y b9 b12 3 := by
  unfold joinT at gB
  obtain ⟨q1, q2, q3, q4, q5, q6⟩ := join_fits a b (g := ⟨#[124, 124, 124]⟩) za (by decide) zb
  show AW _ _ _ (Code.seq _ _) _ _ _
  repeat (any_goals (first | refine s_at ?_ | refine s_skip ?_ | refine s_off ?_ | refine s_offn ?_ | refine s_move ?_ | refine s_assign ?_ | refine s_load ?_ | refine s_loade ?_ | refine s_loadd ?_ | refine s_pick1 ?_ | refine s_pick0 ?_ | refine s_pure ?_ | refine s_nil ?_ | refine aw_seq ?_ | refine aw_seqr ?_ | refine aw_block ?_ | refine aw_true ?_ | refine aw_false ?_ | refine s_alloc (fun _ => ?_) | refine s_allocd (fun _ => ?_) | refine s_box (fun _ => ?_) | refine s_box1 (fun _ => ?_) | refine s_store' ?_ | refine s_elem 3 rfl ?_ | refine s_call0 gB ?_ | refine s_call0 gS ?_ | refine s_litq ?_ | refine s_drawn 6 [5] ?_ | refine s_call0 (sim_lst0 GL) ?_ | refine s_lito ?_ | refine s_concat q1 ?_ | refine s_concat q2 ?_ | refine s_concat q3 ?_ | refine s_concat q4 ?_ | refine s_concat q5 ?_ | refine s_concat q6 ?_ | (refine s_cmp (fun h => ?_) (fun h => ?_) <;> try (exfalso; first | omega | exact h rfl))))
  refine aw_ret ?_; (repeat (first | refine then_ret ?_ | refine inb_ret ?_))
  exact post_of ⟨rfl, rfl⟩ rvs pks
set_option maxRecDepth 20000 in set_option maxHeartbeats 4000000 in
theorem joined_tail4 (a b : ByteArray) (za : a.size ≤ 1000) (zb : b.size ≤ 1000) (O : List AV) (x y m : Nd) (b9 b12 : Nat)
    (gB : Sim Tryz.prog GL 9 [str (joinT a ⟨#[124, 91, 103, 44, 32, 104, 93, 124]⟩ b), .sl 5 O] [] (fun o τ => o = .ret (.tu [.ag (nd m.kind m.n m.s (.sl 6 (encs m.l)) m.b m.e), i64 0, i64 0]) ∧ τ = []))
    (gS : Sim Tryz.prog GL 12 [.ag (nd m.kind m.n m.s (.sl 6 (encs m.l)) m.b m.e), .ag (nd 24 0 ⟨#[124, 91]⟩ (.sl 6 [.ag (nd 8 0 ⟨#[]⟩ (.sl 6 [.ag (nd 7 0 ⟨#[103]⟩ (.sc (.slice none 0 0)) 0 0), .ag (nd 7 0 ⟨#[104]⟩ (.sc (.slice none 0 0)) 0 0)]) 0 0), .ag (nd x.kind x.n x.s (.sl 6 (encs x.l)) x.b x.e), .ag (nd y.kind y.n y.s (.sl 6 (encs y.l)) y.b y.e)]) 0 0)] [] (fun o τ => o = .ret (boo true) ∧ τ = [])) :
    TailJ O a b x y b9 b12 4 := by
  unfold joinT at gB
  obtain ⟨q1, q2, q3, q4, q5, q6⟩ := join_fits a b (g := ⟨#[124, 91, 103, 44, 32, 104, 93, 124]⟩) za (by decide) zb
  show AW _ _ _ (Code.seq _ _) _ _ _
  repeat (any_goals (first | refine s_at ?_ | refine s_skip ?_ | refine s_off ?_ | refine s_offn ?_ | refine s_move ?_ | refine s_assign ?_ | refine s_load ?_ | refine s_loade ?_ | refine s_loadd ?_ | refine s_pick1 ?_ | refine s_pick0 ?_ | refine s_pure ?_ | refine s_nil ?_ | refine aw_seq ?_ | refine aw_seqr ?_ | refine aw_block ?_ | refine aw_true ?_ | refine aw_false ?_ | refine s_alloc (fun _ => ?_) | refine s_allocd (fun _ => ?_) | refine s_box (fun _ => ?_) | refine s_box1 (fun _ => ?_) | refine s_store' ?_ | refine s_elem 4 rfl ?_ | refine s_call0 gB ?_ | refine s_call0 gS ?_ | refine s_litq ?_ | refine s_drawn 9 [8] ?_ | refine s_call0 (sim_lst GL _) ?_ | refine s_lito ?_ | refine s_concat q1 ?_ | refine s_concat q2 ?_ | refine s_concat q3 ?_ | refine s_concat q4 ?_ | refine s_concat q5 ?_ | refine s_concat q6 ?_ | (refine s_cmp (fun h => ?_) (fun h => ?_) <;> try (exfalso; first | omega | exact h rfl))))
  refine aw_ret ?_; (repeat (first | refine then_ret ?_ | refine inb_ret ?_))
  exact post_of ⟨rfl, rfl⟩ rvs pks
end Go.Proofs.YtjcocblohiglbaaGreatDoor
