/- The law ParsePlaces: the walk through the tree: its loop. Conditions: none. -/
import Derived.Test.YtjcocblohiglbaaGreatDoorZ3
import Derived.Test.YtjcocblohiglbaaGreatDoorQ2
namespace Go.Proofs.YtjcocblohiglbaaGreatDoor
open Go.Dp Go.RowKit
set_option linter.unusedVariables false
set_option linter.unusedSimpArgs false
section
variable {P : Program} [Tys P] {I : World → Prop} {N : Nat} {ops : Array Oper} {Q : Exit → Env → List Rs → Prop} {i : Nat} {c : List Nat} {env : Env} {σ : List Rs} {d : Option Tmp} {tt : TypeId} {ps : String} {af : Array Edge} {gd : Option (Nat × Bool)}
omit [Tys P] in
/-- A call of a function value that changes nothing, and leans on one resource. -/
theorem s_callvr {f : FuncId} {x : Operand} {ar : Array Operand} {ts : Array TypeId} {args fs cs : List AV} {r : Rs} {v : AV} {l : List Rs} (hs : Sim P I f args [r] (fun o τ' => o = .ret v ∧ τ' = [r])) (k : Der P I N ops seqMd Q [] c (env.put d v) σ) (hx : env.val x = .fn (.func f) fs cs := by rfl) (ha : fs ++ ar.toList.map env.val ++ cs = args := by first | rfl | simp)
    (hp : Pick r σ l := by ((repeat (first | exact Go.Dp.Pick.here _ | apply Go.Dp.Pick.there)); (first | done | fail))) : Go.Dp.At P I N ops seqMd Q [] i c ⟨d, .call ⟨.value x, ar, ts⟩, tt, ps, af, gd⟩ env σ := at_rds (r := r) (rd_callv (r := some r) hx hs ha) hp k
end
/-- A loop's round; a block's code. -/
def lopC : Code → Code
  | .loop c => c
  | c => c
def bloC : Code → Code
  | .block _ c => c
  | c => c
/-- The function that the walk calls itself by. -/
def wkF (tx : ByteArray) (O : List AV) (b8 : Nat) : AV := .fn (.func 10) [] [.ep [str tx], .ep [.sl 5 O], ptr b8]
abbrev wkB (tx : ByteArray) (O : List AV) (b8 : Nat) : Rs := .box b8 [.fn (.func 10) [] [.ep [str tx], .ep [.sl 5 O], ptr b8]] 31
abbrev WkS (tx : ByteArray) (O : List AV) (b8 : Nat) (x : Nd) (lo hi : Int) : Prop := Sim Tryz.prog GL 10 [enc x, i64 lo, i64 hi, .ep [str tx], .ep [.sl 5 O], ptr b8] [wkB tx O b8] (fun o τ => o = .ret (boo true) ∧ τ = [wkB tx O b8])
/-- What is left of the children. -/
def WkI (AL : Nd → Prop) (k b e : Int) (l : List Nd) (i : Nat) (last : Int) : Prop := (k = 9 ∨ k = 41) ∨ (i = 0 ∧ (k = 24 ∨ k = 26) ∧ last = b ∧ wlf AL b e l) ∨ (¬ (i = 0 ∧ (k = 24 ∨ k = 26)) ∧ ¬ (k = 9 ∨ k = 41) ∧ wls AL e last (l.drop i))
/-- A round of the loop: the child i; last: where the children end so far. -/
def WkRound (tx : ByteArray) (O : List AV) (b8 b6 b10 : Nat) (k n : Int) (s : ByteArray) (l : List Nd) (b e : Int) (k0 n0 : Int) (s0 : ByteArray) (L0 : List AV) (c0 e0 : Int) (i : Nat) (last last' : Int) : Prop := ∀ (K : Env → List Rs → Prop) (Q0 : Exit → Env → List Rs → Prop), (∀ (env' : Env) (σ' dr : List Rs), EnvLe env' [(5, ptr b8), (6, ptr b6), (12, i64 last'), (86, .sl 6 (encs l)), (87, i64 ((encs l).length : Int)), (88, i64 (((i + 1 : Nat)) : Int))] → Picks [.box b6 (nd k n s (.sl 6 (encs l)) b e) 27, .box b10 (nd k0 n0 s0 (.sl 6 L0) c0 e0) 27, wkB tx O b8] σ' dr → K env' σ') →
  AW Tryz.prog GL Tryz.f10.ntmps (lopC (bloC (sndC (fstC (sndC (sndC (sndC (sndC (sndC (sndC (sndC (bodyC Tryz.f10)))))))))))) (Then K Q0) [(5, ptr b8), (6, ptr b6), (12, i64 last), (86, .sl 6 (encs l)), (87, i64 ((encs l).length : Int)), (88, i64 (i : Int))] [.box b6 (nd k n s (.sl 6 (encs l)) b e) 27, .box b10 (nd k0 n0 s0 (.sl 6 L0) c0 e0) 27, wkB tx O b8]
section
variable {tx : ByteArray} {O : List AV} {b8 b6 b10 : Nat} {k n : Int} {s : ByteArray} {l : List Nd} {b e : Int} {k0 n0 : Int} {s0 : ByteArray} {L0 : List AV} {c0 e0 : Int} {i : Nat} {last : Int} {y : Nd}
set_option maxRecDepth 20000 in set_option maxHeartbeats 4000000 in
theorem round_a (hl : l.length ≤ 1000000) (hy : l[i]? = some y) (hcy : y.l.length ≤ 1000000)  : WkRound tx O b8 b6 b10 9 n s l b e k0 n0 s0 L0 c0 e0 i last last := by
  have hle := encs_length l
  have hlt : i < l.length := (List.getElem?_eq_some_iff.1 hy).1
  have g2 := encs_get hy
  have hyl := encs_length y.l
  rw [enc_ag y] at g2
  unfold WkRound
  intro K Q0 hK
  show AW _ _ _ (Code.seq _ _) _ _ _
  repeat (any_goals (first | refine s_at ?_ | refine s_skip ?_ | refine s_off ?_ | refine s_offn ?_ | refine s_move ?_ | refine s_assign ?_ | refine s_load ?_ | refine s_loade ?_ | refine s_loadd ?_ | refine s_pick1 ?_ | refine s_pick0 ?_ | refine s_pure ?_ | refine s_nil ?_ | refine aw_seq ?_ | refine aw_seqr ?_ | refine aw_block ?_ | refine aw_true ?_ | refine aw_false ?_ | refine s_alloc (fun _ => ?_) | refine s_allocd (fun _ => ?_) | refine s_box (fun _ => ?_) | refine s_box1 (fun _ => ?_) | refine s_store' ?_ | (refine s_cmp (fun h => ?_) (fun h => ?_) <;> try (exfalso; omega)) | refine s_elem i g2 ?_ | refine s_add ?_ | (refine aw_exit ?_; (repeat refine then_exit ?_); refine inb_exit ?_; refine then_nor ?_)))
  all_goals (refine d_end fun env' he => ?_; (repeat (first | refine inb_nor ?_ | refine then_nor ?_)); exact hK _ _ _ (EnvLe.of_eq he els) pks)
set_option maxRecDepth 20000 in set_option maxHeartbeats 4000000 in
theorem round_b (hl : l.length ≤ 1000000) (hy : l[i]? = some y) (hcy : y.l.length ≤ 1000000)  : WkRound tx O b8 b6 b10 41 n s l b e k0 n0 s0 L0 c0 e0 i last last := by
  have hle := encs_length l
  have hlt : i < l.length := (List.getElem?_eq_some_iff.1 hy).1
  have g2 := encs_get hy
  have hyl := encs_length y.l
  rw [enc_ag y] at g2
  unfold WkRound
  intro K Q0 hK
  show AW _ _ _ (Code.seq _ _) _ _ _
  repeat (any_goals (first | refine s_at ?_ | refine s_skip ?_ | refine s_off ?_ | refine s_offn ?_ | refine s_move ?_ | refine s_assign ?_ | refine s_load ?_ | refine s_loade ?_ | refine s_loadd ?_ | refine s_pick1 ?_ | refine s_pick0 ?_ | refine s_pure ?_ | refine s_nil ?_ | refine aw_seq ?_ | refine aw_seqr ?_ | refine aw_block ?_ | refine aw_true ?_ | refine aw_false ?_ | refine s_alloc (fun _ => ?_) | refine s_allocd (fun _ => ?_) | refine s_box (fun _ => ?_) | refine s_box1 (fun _ => ?_) | refine s_store' ?_ | (refine s_cmp (fun h => ?_) (fun h => ?_) <;> try (exfalso; omega)) | refine s_elem i g2 ?_ | refine s_add ?_ | (refine aw_exit ?_; (repeat refine then_exit ?_); refine inb_exit ?_; refine then_nor ?_)))
  all_goals (refine d_end fun env' he => ?_; (repeat (first | refine inb_nor ?_ | refine then_nor ?_)); exact hK _ _ _ (EnvLe.of_eq he els) pks)
set_option maxRecDepth 20000 in set_option maxHeartbeats 4000000 in
theorem round_c0 (hl : l.length ≤ 1000000) (hy : l[0]? = some y) (hcy : y.l.length ≤ 1000000) (hz0 : y.l.length = 0) : WkRound tx O b8 b6 b10 24 n s l b e k0 n0 s0 L0 c0 e0 0 last last := by
  have hle := encs_length l
  have hlt : 0 < l.length := (List.getElem?_eq_some_iff.1 hy).1
  have g2 := encs_get hy
  have hyl := encs_length y.l
  rw [enc_ag y] at g2
  unfold WkRound
  intro K Q0 hK
  show AW _ _ _ (Code.seq _ _) _ _ _
  repeat (any_goals (first | refine s_at ?_ | refine s_skip ?_ | refine s_off ?_ | refine s_offn ?_ | refine s_move ?_ | refine s_assign ?_ | refine s_load ?_ | refine s_loade ?_ | refine s_loadd ?_ | refine s_pick1 ?_ | refine s_pick0 ?_ | refine s_pure ?_ | refine s_nil ?_ | refine aw_seq ?_ | refine aw_seqr ?_ | refine aw_block ?_ | refine aw_true ?_ | refine aw_false ?_ | refine s_alloc (fun _ => ?_) | refine s_allocd (fun _ => ?_) | refine s_box (fun _ => ?_) | refine s_box1 (fun _ => ?_) | refine s_store' ?_ | (refine s_cmp (fun h => ?_) (fun h => ?_) <;> try (exfalso; omega)) | refine s_elem 0 g2 ?_ | refine s_add ?_ | (refine aw_exit ?_; (repeat refine then_exit ?_); refine inb_exit ?_; refine then_nor ?_)))
  all_goals (refine d_end fun env' he => ?_; (repeat (first | refine inb_nor ?_ | refine then_nor ?_)); exact hK _ _ _ (EnvLe.of_eq he els) pks)
set_option maxRecDepth 20000 in set_option maxHeartbeats 4000000 in
theorem round_c1 (hl : l.length ≤ 1000000) (hy : l[0]? = some y) (hcy : y.l.length ≤ 1000000) (hz0 : y.l.length ≠ 0) (g1 : WkS tx O b8 y b e) : WkRound tx O b8 b6 b10 24 n s l b e k0 n0 s0 L0 c0 e0 0 last last := by
  have hle := encs_length l
  have hlt : 0 < l.length := (List.getElem?_eq_some_iff.1 hy).1
  have g2 := encs_get hy
  have hyl := encs_length y.l
  unfold WkS at g1
  rw [enc_ag y] at g1
  rw [enc_ag y] at g2
  unfold WkRound
  intro K Q0 hK
  show AW _ _ _ (Code.seq _ _) _ _ _
  repeat (any_goals (first | refine s_at ?_ | refine s_skip ?_ | refine s_off ?_ | refine s_offn ?_ | refine s_move ?_ | refine s_assign ?_ | refine s_load ?_ | refine s_loade ?_ | refine s_loadd ?_ | refine s_pick1 ?_ | refine s_pick0 ?_ | refine s_pure ?_ | refine s_nil ?_ | refine aw_seq ?_ | refine aw_seqr ?_ | refine aw_block ?_ | refine aw_true ?_ | refine aw_false ?_ | refine s_alloc (fun _ => ?_) | refine s_allocd (fun _ => ?_) | refine s_box (fun _ => ?_) | refine s_box1 (fun _ => ?_) | refine s_store' ?_ | (refine s_cmp (fun h => ?_) (fun h => ?_) <;> try (exfalso; omega)) | refine s_elem 0 g2 ?_ | refine s_add ?_ | refine s_callvr g1 ?_ | (refine aw_exit ?_; (repeat refine then_exit ?_); refine inb_exit ?_; refine then_nor ?_)))
  all_goals (refine d_end fun env' he => ?_; (repeat (first | refine inb_nor ?_ | refine then_nor ?_)); exact hK _ _ _ (EnvLe.of_eq he els) pks)
set_option maxRecDepth 20000 in set_option maxHeartbeats 4000000 in
theorem round_d0 (hl : l.length ≤ 1000000) (hy : l[0]? = some y) (hcy : y.l.length ≤ 1000000) (hz0 : y.l.length = 0) : WkRound tx O b8 b6 b10 26 n s l b e k0 n0 s0 L0 c0 e0 0 last last := by
  have hle := encs_length l
  have hlt : 0 < l.length := (List.getElem?_eq_some_iff.1 hy).1
  have g2 := encs_get hy
  have hyl := encs_length y.l
  rw [enc_ag y] at g2
  unfold WkRound
  intro K Q0 hK
  show AW _ _ _ (Code.seq _ _) _ _ _
  repeat (any_goals (first | refine s_at ?_ | refine s_skip ?_ | refine s_off ?_ | refine s_offn ?_ | refine s_move ?_ | refine s_assign ?_ | refine s_load ?_ | refine s_loade ?_ | refine s_loadd ?_ | refine s_pick1 ?_ | refine s_pick0 ?_ | refine s_pure ?_ | refine s_nil ?_ | refine aw_seq ?_ | refine aw_seqr ?_ | refine aw_block ?_ | refine aw_true ?_ | refine aw_false ?_ | refine s_alloc (fun _ => ?_) | refine s_allocd (fun _ => ?_) | refine s_box (fun _ => ?_) | refine s_box1 (fun _ => ?_) | refine s_store' ?_ | (refine s_cmp (fun h => ?_) (fun h => ?_) <;> try (exfalso; omega)) | refine s_elem 0 g2 ?_ | refine s_add ?_ | (refine aw_exit ?_; (repeat refine then_exit ?_); refine inb_exit ?_; refine then_nor ?_)))
  all_goals (refine d_end fun env' he => ?_; (repeat (first | refine inb_nor ?_ | refine then_nor ?_)); exact hK _ _ _ (EnvLe.of_eq he els) pks)
set_option maxRecDepth 20000 in set_option maxHeartbeats 4000000 in
theorem round_d1 (hl : l.length ≤ 1000000) (hy : l[0]? = some y) (hcy : y.l.length ≤ 1000000) (hz0 : y.l.length ≠ 0) (g1 : WkS tx O b8 y b e) : WkRound tx O b8 b6 b10 26 n s l b e k0 n0 s0 L0 c0 e0 0 last last := by
  have hle := encs_length l
  have hlt : 0 < l.length := (List.getElem?_eq_some_iff.1 hy).1
  have g2 := encs_get hy
  have hyl := encs_length y.l
  unfold WkS at g1
  rw [enc_ag y] at g1
  rw [enc_ag y] at g2
  unfold WkRound
  intro K Q0 hK
  show AW _ _ _ (Code.seq _ _) _ _ _
  repeat (any_goals (first | refine s_at ?_ | refine s_skip ?_ | refine s_off ?_ | refine s_offn ?_ | refine s_move ?_ | refine s_assign ?_ | refine s_load ?_ | refine s_loade ?_ | refine s_loadd ?_ | refine s_pick1 ?_ | refine s_pick0 ?_ | refine s_pure ?_ | refine s_nil ?_ | refine aw_seq ?_ | refine aw_seqr ?_ | refine aw_block ?_ | refine aw_true ?_ | refine aw_false ?_ | refine s_alloc (fun _ => ?_) | refine s_allocd (fun _ => ?_) | refine s_box (fun _ => ?_) | refine s_box1 (fun _ => ?_) | refine s_store' ?_ | (refine s_cmp (fun h => ?_) (fun h => ?_) <;> try (exfalso; omega)) | refine s_elem 0 g2 ?_ | refine s_add ?_ | refine s_callvr g1 ?_ | (refine aw_exit ?_; (repeat refine then_exit ?_); refine inb_exit ?_; refine then_nor ?_)))
  all_goals (refine d_end fun env' he => ?_; (repeat (first | refine inb_nor ?_ | refine then_nor ?_)); exact hK _ _ _ (EnvLe.of_eq he els) pks)
set_option maxRecDepth 20000 in set_option maxHeartbeats 4000000 in
theorem round_e0 (hl : l.length ≤ 1000000) (hy : l[i]? = some y) (hcy : y.l.length ≤ 1000000) (h1 : ¬ (i = 0 ∧ (k = 24 ∨ k = 26))) (h2 : ¬ (k = 9 ∨ k = 41)) (hz : y.b = y.e) (hz0 : y.l.length = 0) : WkRound tx O b8 b6 b10 k n s l b e k0 n0 s0 L0 c0 e0 i last last := by
  have hle := encs_length l
  have hlt : i < l.length := (List.getElem?_eq_some_iff.1 hy).1
  have g2 := encs_get hy
  have hyl := encs_length y.l
  rw [enc_ag y] at g2
  unfold WkRound
  intro K Q0 hK
  show AW _ _ _ (Code.seq _ _) _ _ _
  repeat (any_goals (first | refine s_at ?_ | refine s_skip ?_ | refine s_off ?_ | refine s_offn ?_ | refine s_move ?_ | refine s_assign ?_ | refine s_load ?_ | refine s_loade ?_ | refine s_loadd ?_ | refine s_pick1 ?_ | refine s_pick0 ?_ | refine s_pure ?_ | refine s_nil ?_ | refine aw_seq ?_ | refine aw_seqr ?_ | refine aw_block ?_ | refine aw_true ?_ | refine aw_false ?_ | refine s_alloc (fun _ => ?_) | refine s_allocd (fun _ => ?_) | refine s_box (fun _ => ?_) | refine s_box1 (fun _ => ?_) | refine s_store' ?_ | (refine s_cmp (fun h => ?_) (fun h => ?_) <;> try (exfalso; omega)) | refine s_elem i g2 ?_ | refine s_add ?_ | (refine aw_exit ?_; (repeat refine then_exit ?_); refine inb_exit ?_; refine then_nor ?_)))
  all_goals (refine d_end fun env' he => ?_; (repeat (first | refine inb_nor ?_ | refine then_nor ?_)); exact hK _ _ _ (EnvLe.of_eq he els) pks)
set_option maxRecDepth 20000 in set_option maxHeartbeats 4000000 in
theorem round_e1 (hl : l.length ≤ 1000000) (hy : l[i]? = some y) (hcy : y.l.length ≤ 1000000) (h1 : ¬ (i = 0 ∧ (k = 24 ∨ k = 26))) (h2 : ¬ (k = 9 ∨ k = 41)) (hz : y.b = y.e) (hz0 : y.l.length ≠ 0) (a1 : last ≤ y.b) (g1 : WkS tx O b8 y b e) : WkRound tx O b8 b6 b10 k n s l b e k0 n0 s0 L0 c0 e0 i last y.e := by
  have hle := encs_length l
  have hlt : i < l.length := (List.getElem?_eq_some_iff.1 hy).1
  have g2 := encs_get hy
  have hyl := encs_length y.l
  unfold WkS at g1
  rw [enc_ag y] at g1
  rw [enc_ag y] at g2
  unfold WkRound
  intro K Q0 hK
  show AW _ _ _ (Code.seq _ _) _ _ _
  repeat (any_goals (first | refine s_at ?_ | refine s_skip ?_ | refine s_off ?_ | refine s_offn ?_ | refine s_move ?_ | refine s_assign ?_ | refine s_load ?_ | refine s_loade ?_ | refine s_loadd ?_ | refine s_pick1 ?_ | refine s_pick0 ?_ | refine s_pure ?_ | refine s_nil ?_ | refine aw_seq ?_ | refine aw_seqr ?_ | refine aw_block ?_ | refine aw_true ?_ | refine aw_false ?_ | refine s_alloc (fun _ => ?_) | refine s_allocd (fun _ => ?_) | refine s_box (fun _ => ?_) | refine s_box1 (fun _ => ?_) | refine s_store' ?_ | (refine s_cmp (fun h => ?_) (fun h => ?_) <;> try (exfalso; omega)) | refine s_elem i g2 ?_ | refine s_add ?_ | refine s_callvr g1 ?_ | (refine aw_exit ?_; (repeat refine then_exit ?_); refine inb_exit ?_; refine then_nor ?_)))
  all_goals (refine d_end fun env' he => ?_; (repeat (first | refine inb_nor ?_ | refine then_nor ?_)); exact hK _ _ _ (EnvLe.of_eq he els) pks)
set_option maxRecDepth 20000 in set_option maxHeartbeats 4000000 in
theorem round_e2 (hl : l.length ≤ 1000000) (hy : l[i]? = some y) (hcy : y.l.length ≤ 1000000) (h1 : ¬ (i = 0 ∧ (k = 24 ∨ k = 26))) (h2 : ¬ (k = 9 ∨ k = 41)) (hz : y.b ≠ y.e) (a1 : last ≤ y.b) (g1 : WkS tx O b8 y b e) : WkRound tx O b8 b6 b10 k n s l b e k0 n0 s0 L0 c0 e0 i last y.e := by
  have hle := encs_length l
  have hlt : i < l.length := (List.getElem?_eq_some_iff.1 hy).1
  have g2 := encs_get hy
  have hyl := encs_length y.l
  unfold WkS at g1
  rw [enc_ag y] at g1
  rw [enc_ag y] at g2
  unfold WkRound
  intro K Q0 hK
  show AW _ _ _ (Code.seq _ _) _ _ _
  repeat (any_goals (first | refine s_at ?_ | refine s_skip ?_ | refine s_off ?_ | refine s_offn ?_ | refine s_move ?_ | refine s_assign ?_ | refine s_load ?_ | refine s_loade ?_ | refine s_loadd ?_ | refine s_pick1 ?_ | refine s_pick0 ?_ | refine s_pure ?_ | refine s_nil ?_ | refine aw_seq ?_ | refine aw_seqr ?_ | refine aw_block ?_ | refine aw_true ?_ | refine aw_false ?_ | refine s_alloc (fun _ => ?_) | refine s_allocd (fun _ => ?_) | refine s_box (fun _ => ?_) | refine s_box1 (fun _ => ?_) | refine s_store' ?_ | (refine s_cmp (fun h => ?_) (fun h => ?_) <;> try (exfalso; omega)) | refine s_elem i g2 ?_ | refine s_add ?_ | refine s_callvr g1 ?_ | (refine aw_exit ?_; (repeat refine then_exit ?_); refine inb_exit ?_; refine then_nor ?_)))
  all_goals (refine d_end fun env' he => ?_; (repeat (first | refine inb_nor ?_ | refine then_nor ?_)); exact hK _ _ _ (EnvLe.of_eq he els) pks)
end
set_option maxRecDepth 20000 in set_option maxHeartbeats 4000000 in
theorem walk_loop {AL : Nd → Prop} (tx : ByteArray) (O : List AV) (b8 b6 b10 : Nat) (k n : Int) (s : ByteArray) (l : List Nd) (b e : Int) (k0 n0 : Int) (s0 : ByteArray) (L0 : List AV) (c0 e0 : Int) (hl : l.length ≤ 1000000) (hw : ∀ y, y ∈ l → wl AL y → b ≤ y.b → y.e ≤ e → WkS tx O b8 y b e) (h : if k = 9 ∨ k = 41 then True else if k = 24 ∨ k = 26 then wlf AL b e l else wls AL e b l) (Q : Exit → Env → List Rs → Prop)
    (hc : ∀ y, y ∈ l → y.l.length ≤ 1000000)
    (hend : AW Tryz.prog GL Tryz.f10.ntmps (sndC (sndC (sndC (sndC (sndC (sndC (sndC (sndC (bodyC Tryz.f10))))))))) Q [(5, ptr b8), (6, ptr b6)] [.box b6 (nd k n s (.sl 6 (encs l)) b e) 27, .box b10 (nd k0 n0 s0 (.sl 6 L0) c0 e0) 27, wkB tx O b8]) :
    AW Tryz.prog GL Tryz.f10.ntmps (sndC (sndC (sndC (sndC (sndC (sndC (bodyC Tryz.f10))))))) Q [(5, ptr b8), (6, ptr b6)] [.box b6 (nd k n s (.sl 6 (encs l)) b e) 27, .box b10 (nd k0 n0 s0 (.sl 6 L0) c0 e0) 27, wkB tx O b8] := by
  have hle := encs_length l
  show AW _ _ _ (Code.seq _ _) _ _ _
  repeat (any_goals (first | refine s_at ?_ | refine s_skip ?_ | refine s_off ?_ | refine s_offn ?_ | refine s_move ?_ | refine s_assign ?_ | refine s_load ?_ | refine s_loade ?_ | refine s_loadd ?_ | refine s_pick1 ?_ | refine s_pick0 ?_ | refine s_pure ?_ | refine s_nil ?_ | refine aw_seq ?_ | refine aw_seqr ?_ | refine aw_block ?_ | refine aw_true ?_ | refine aw_false ?_ | refine s_alloc (fun _ => ?_) | refine s_allocd (fun _ => ?_) | refine s_box (fun _ => ?_) | refine s_box1 (fun _ => ?_) | refine s_store' ?_))
  refine aw_loop (fun s' : Nat × Int => [(5, ptr b8), (6, ptr b6), (12, i64 s'.2), (86, .sl 6 (encs l)), (87, i64 ((encs l).length : Int)), (88, i64 (s'.1 : Int))])
    (fun s' => [.box b6 (nd k n s (.sl 6 (encs l)) b e) 27, .box b10 (nd k0 n0 s0 (.sl 6 L0) c0 e0) 27, wkB tx O b8]) (fun s' => s'.1 ≤ l.length ∧ b ≤ s'.2 ∧ WkI AL k b e l s'.1 s'.2) (fun s' => l.length - s'.1) (0, b) ⟨Nat.zero_le _, Int.le_refl _, ?_⟩ els _ (Picks.perm pks) ?_
  · unfold WkI
    by_cases h1 : k = 9 ∨ k = 41
    · exact .inl h1
    · rw [if_neg h1] at h
      by_cases h2 : k = 24 ∨ k = 26
      · rw [if_pos h2] at h; exact .inr (.inl ⟨rfl, h2, rfl, h⟩)
      · rw [if_neg h2] at h; exact .inr (.inr ⟨fun c => h2 c.2, h1, h⟩)
  rintro ⟨i, last⟩ ⟨i1, i2, i3⟩
  dsimp only at i1 i2 i3 ⊢
  by_cases hi : i < l.length
  · clear hend h
    obtain ⟨y, hy⟩ : ∃ y, l[i]? = some y := ⟨l[i], List.getElem?_eq_getElem hi⟩
    have hym := List.mem_of_getElem? hy
    have hcy := hc y hym
    have hdrop : l.drop i = y :: l.drop (i + 1) := by
      obtain ⟨h1, h2⟩ := List.getElem?_eq_some_iff.1 hy
      rw [List.drop_eq_getElem_cons h1, h2]
    rcases i3 with h1 | ⟨rfl, h1, rfl, h2⟩ | ⟨h1, h2, h3⟩
    · rcases h1 with rfl | rfl
      · (refine (round_a hl hy hcy) _ _ (fun env' σ' dr f1 f2 => ?_); exact ⟨(i + 1, last), _, ⟨by dsimp only; omega, i2, (.inl (.inl rfl))⟩, by dsimp only; omega, f1, f2.perm⟩)
      · (refine (round_b hl hy hcy) _ _ (fun env' σ' dr f1 f2 => ?_); exact ⟨(i + 1, last), _, ⟨by dsimp only; omega, i2, (.inl (.inr rfl))⟩, by dsimp only; omega, f1, f2.perm⟩)
    · have hl1 : l = y :: l.drop 1 := by rw [List.drop_zero] at hdrop; exact hdrop
      rw [hl1, wlf] at h2
      obtain ⟨h2, h3⟩ := h2
      have hnext : WkI AL k last e l (0 + 1) last := .inr (.inr ⟨fun c => by omega, by omega, h3⟩)
      by_cases hz : y.l = []
      · have hz0 : y.l.length = 0 := by rw [hz]; rfl
        rcases h1 with rfl | rfl
        · (refine (round_c0 hl hy hcy hz0) _ _ (fun env' σ' dr f1 f2 => ?_); exact ⟨(0 + 1, last), _, ⟨by dsimp only; omega, i2, hnext⟩, by dsimp only; omega, f1, f2.perm⟩)
        · (refine (round_d0 hl hy hcy hz0) _ _ (fun env' σ' dr f1 f2 => ?_); exact ⟨(0 + 1, last), _, ⟨by dsimp only; omega, i2, hnext⟩, by dsimp only; omega, f1, f2.perm⟩)
      · have hz0 : y.l.length ≠ 0 := fun h => hz (List.length_eq_zero_iff.1 h)
        obtain ⟨a1, a2, a3⟩ := h2 hz
        have g1 := hw y hym a3 a1 a2
        rcases h1 with rfl | rfl
        · (refine (round_c1 hl hy hcy hz0 g1) _ _ (fun env' σ' dr f1 f2 => ?_); exact ⟨(0 + 1, last), _, ⟨by dsimp only; omega, i2, hnext⟩, by dsimp only; omega, f1, f2.perm⟩)
        · (refine (round_d1 hl hy hcy hz0 g1) _ _ (fun env' σ' dr f1 f2 => ?_); exact ⟨(0 + 1, last), _, ⟨by dsimp only; omega, i2, hnext⟩, by dsimp only; omega, f1, f2.perm⟩)
    · rw [hdrop, wls] at h3
      by_cases hz : y.b = y.e ∧ y.l = []
      · rw [if_pos hz] at h3
        (refine (round_e0 hl hy hcy h1 h2 hz.1 (by rw [hz.2]; rfl)) _ _ (fun env' σ' dr f1 f2 => ?_); exact ⟨(i + 1, last), _, ⟨by dsimp only; omega, i2, (.inr (.inr ⟨fun c => by omega, h2, h3⟩))⟩, by dsimp only; omega, f1, f2.perm⟩)
      · rw [if_neg hz] at h3
        obtain ⟨a1, a2, a3, a4⟩ := h3
        have hbe := (wl_k a3).1
        have g1 := hw y hym a3 (by omega) a2
        have hnext : WkI AL k b e l (i + 1) y.e := .inr (.inr ⟨fun c => by omega, h2, a4⟩)
        by_cases hb : y.b = y.e
        · (refine (round_e1 hl hy hcy h1 h2 hb (fun h => hz ⟨hb, List.length_eq_zero_iff.1 h⟩) a1 g1) _ _ (fun env' σ' dr f1 f2 => ?_); exact ⟨(i + 1, y.e), _, ⟨by dsimp only; omega, (by omega), hnext⟩, by dsimp only; omega, f1, f2.perm⟩)
        · (refine (round_e2 hl hy hcy h1 h2 hb a1 g1) _ _ (fun env' σ' dr f1 f2 => ?_); exact ⟨(i + 1, y.e), _, ⟨by dsimp only; omega, (by omega), hnext⟩, by dsimp only; omega, f1, f2.perm⟩)
  · repeat (any_goals (first | refine s_at ?_ | refine s_skip ?_ | refine s_off ?_ | refine s_offn ?_ | refine s_move ?_ | refine s_assign ?_ | refine s_load ?_ | refine s_loade ?_ | refine s_loadd ?_ | refine s_pick1 ?_ | refine s_pick0 ?_ | refine s_pure ?_ | refine s_nil ?_ | refine aw_seq ?_ | refine aw_seqr ?_ | refine aw_block ?_ | refine aw_true ?_ | refine aw_false ?_ | refine s_alloc (fun _ => ?_) | refine s_allocd (fun _ => ?_) | refine s_box (fun _ => ?_) | refine s_box1 (fun _ => ?_) | refine s_store' ?_ | (refine s_cmp (fun h => ?_) (fun h => ?_) <;> try (exfalso; omega))))
    refine aw_exit ?_; (repeat refine then_exit ?_); refine inb_exit ?_; refine then_nor ?_
    exact aw_to hend els pks
end Go.Proofs.YtjcocblohiglbaaGreatDoor
