/- Reading: what it comes to, in plain words. Conditions: none. -/
import Derived.Test.YtjcocblohiglbaaGreatDoorC2
import Derived.Test.YtjcocblohiglbaaGreatDoorB3
import Derived.Test.YtjcocblohiglbaaGreatDoorC1
import Derived.Test.YtjcocblohiglbaaGreatDoorA1
import Derived.Defers
import Derived.Recover
import Derived.WalkKit
import Derived.WalkSpells
import Derived.WalkLawsBesides
import Derived.Lib.Hide
import Derived.BigRegion
import Derived.RegionTactic
import Derived.RegionCalls
import Derived.Deep.RegionLaw
import Derived.Deep.RegionWith
namespace Go.Proofs.YtjcocblohiglbaaGreatDoor
open Go.Dp
set_option linter.unusedVariables false
def zeroN : Nd := .mk 0 0 ⟨#[]⟩ [] 0 0
/-- The expressions of extents, in order. -/
def solveL (T : List Tk) (A F : List (ByteArray × Mx)) : List (Nat × Nat) → List Nd → SRes (List Nd)
  | [], acc => .ok acc 0
  | x :: l, acc => (sSolve T A F x).bnd fun a _ => solveL T A F l (acc ++ [a])
/-- What is read, where reading stops, and why. -/
structure Rd3 where
  n : Nd
  at_ : Int
  e : Int
/-- A text read by a rule and operations; `lx`: its tokens, and an error. -/
def readP (lx : ByteArray → List Tk × Int × Int) (rule : ByteArray → List Tk → Nat → List (Nat × Nat) → Res Nd) (kd : ByteArray → Int) (ops : List Mx) (tx : ByteArray) : Rd3 :=
  if (lx tx).2.2 ≠ 0 then ⟨zeroN, (lx tx).2.1, (lx tx).2.2⟩
  else match rule tx (lx tx).1 0 [] with
    | .bad q => ⟨zeroN, here tx (lx tx).1 q, 20⟩
    | .ok n q ex =>
      if q < (lx tx).1.length then ⟨zeroN, here tx (lx tx).1 q, 20⟩
      else if apartM kd ops = false then ⟨zeroN, 0, 21⟩
      else match solveL (lx tx).1 (tabM true ops) (tabM false ops) ex [] with
        | .bad q => ⟨zeroN, here tx (lx tx).1 q, 22⟩
        | .ok es _ => if cnt (fill es n) > 60000 ∨ dep (fill es n) > 400 then ⟨zeroN, 0, 2⟩ else ⟨fill es n, 0, 0⟩
def givenP (lx : ByteArray → List Tk × Int × Int) (rule : ByteArray → List Tk → Nat → List (Nat × Nat) → Res Nd) (kd : ByteArray → Int) (ops : List Mx) (tx : ByteArray) : Rd3 :=
  if apartM kd ops = false then ⟨zeroN, 0, 21⟩ else readP lx rule kd ops tx
/-- What can be told apart has no first part twice at a side. -/
theorem apt_of {kd : ByteArray → Int} : ∀ {seen : List (ByteArray × Bool)} {ops : List Mx}, aptL kd seen ops = true → (∀ m, m ∈ ops → rightM kd m = true ∧ keyM m ∉ seen) ∧ Apt ops
  | seen, [], _ => ⟨(fun m h => by cases h), List.Pairwise.nil⟩
  | seen, m :: l, h => by
    rw [aptL, Bool.and_eq_true, Bool.and_eq_true, Bool.not_eq_true'] at h
    obtain ⟨h1, h2, h3⟩ := h
    obtain ⟨h4, h5⟩ := apt_of h3
    have h6 : keyM m ∉ seen := fun hm => by
      have := List.any_eq_false.1 h2 _ hm
      simp at this
    refine ⟨fun x hx => ?_, List.Pairwise.cons (fun x hx => ?_) h5⟩
    · rcases List.mem_cons.1 hx with rfl | hx
      · exact ⟨h1, h6⟩
      · exact ⟨(h4 x hx).1, fun hs => (h4 x hx).2 (List.mem_append_left _ hs)⟩
    · rintro ⟨e1, e2⟩
      refine (h4 x hx).2 (List.mem_append_right _ ?_)
      rw [List.mem_singleton]
      show (firstP x, x.left) = (firstP m, m.left)
      rw [e1, e2]
end Go.Proofs.YtjcocblohiglbaaGreatDoor
/- Reading by given operations: the closure that hands them out. Conditions: none. -/
namespace Go.Proofs.YtjcocblohiglbaaGreatDoor
open Go.Dp
set_option linter.unusedVariables false
set_option linter.unusedSimpArgs false
section
variable (I : World → Prop)
set_option maxRecDepth 20000 in set_option maxHeartbeats 4000000 in
theorem sim_given1 (x : Nd) (ops : List Mx) : Sim Tryz.prog I 35 [enc x, .ep [.sl 5 (ops.map emix)]] [] (fun o τ => o = .ret (.sl 5 (ops.map emix)) ∧ τ = []) := by
  rw [enc_ag x]
  refine sim_body Tryz.func35 rfl rfl rfl ?_
  repeat (any_goals (first | refine s_at ?_ | refine s_assign ?_ | refine s_loade ?_ | refine s_nil ?_ | refine aw_seq ?_ | refine aw_seqr ?_ | refine s_box (fun _ => ?_)))
  refine aw_ret ?_; (repeat (first | refine then_ret ?_))
  exact post_of ⟨rfl, rfl⟩ rvs pks
end
end Go.Proofs.YtjcocblohiglbaaGreatDoor
/- Behaviour and Expr, by what given comes to. Conditions: none. -/
namespace Go.Proofs.YtjcocblohiglbaaGreatDoor
open Go.Dp
set_option linter.unusedVariables false
set_option linter.unusedSimpArgs false
/-- What a reading gives back. -/
def enR (r : Rd3) : AV := .tu [enc r.n, i64 r.at_, i64 r.e]
section
variable (I : World → Prop)
set_option maxRecDepth 20000 in set_option maxHeartbeats 4000000 in
theorem sim_Behaviour (tx : ByteArray) (ops : List Mx) (r : Rd3) (h : Sim Tryz.prog I 22 [str tx, .fn (.func 23) [] [], .sl 5 (ops.map emix)] [] (fun o τ => o = .ret (enR r) ∧ τ = [])) :
    Sim Tryz.prog I 9 [str tx, .sl 5 (ops.map emix)] [] (fun o τ => o = .ret (enR r) ∧ τ = []) := by
  unfold enR at h ⊢
  rw [enc_ag] at h ⊢
  refine sim_body Tryz.func9 rfl rfl rfl ?_
  repeat (any_goals (first | refine s_at ?_ | refine s_move ?_ | refine s_assign ?_ | refine s_pure ?_ | refine s_nil ?_ | refine aw_seq ?_ | refine aw_seqr ?_ | refine s_alloc (fun _ => ?_) | refine s_store' ?_ | refine s_call0 h ?_))
  refine aw_ret ?_; (repeat (first | refine then_ret ?_))
  exact post_of ⟨rfl, rfl⟩ rvs pks
set_option maxRecDepth 20000 in set_option maxHeartbeats 4000000 in
theorem sim_Expr (tx : ByteArray) (ops : List Mx) (r : Rd3) (h : Sim Tryz.prog I 22 [str tx, .fn (.func 24) [] [], .sl 5 (ops.map emix)] [] (fun o τ => o = .ret (enR r) ∧ τ = [])) :
    Sim Tryz.prog I 11 [str tx, .sl 5 (ops.map emix)] [] (fun o τ => o = .ret (enR r) ∧ τ = []) := by
  unfold enR at h ⊢
  rw [enc_ag] at h ⊢
  refine sim_body Tryz.func11 rfl rfl rfl ?_
  repeat (any_goals (first | refine s_at ?_ | refine s_move ?_ | refine s_assign ?_ | refine s_pure ?_ | refine s_nil ?_ | refine aw_seq ?_ | refine aw_seqr ?_ | refine s_alloc (fun _ => ?_) | refine s_store' ?_ | refine s_call0 h ?_))
  refine aw_ret ?_; (repeat (first | refine then_ret ?_))
  exact post_of ⟨rfl, rfl⟩ rvs pks
end
end Go.Proofs.YtjcocblohiglbaaGreatDoor
/- Reading by given operations, by what read comes to. Conditions: none. -/
namespace Go.Proofs.YtjcocblohiglbaaGreatDoor
open Go.Dp
set_option linter.unusedVariables false
set_option linter.unusedSimpArgs false
section
variable (I : World → Prop)
set_option maxRecDepth 20000 in set_option maxHeartbeats 4000000 in
theorem sim_given (kd : ByteArray → Int) (hk : KindOk I kd) (ops : List Mx) (hl : ops.length ≤ 1000000) (hsm : ∀ m, m ∈ ops → SmallM m) (lx : ByteArray → List Tk × Int × Int) (rule : ByteArray → List Tk → Nat → List (Nat × Nat) → Res Nd) (f : FuncId) (tx : ByteArray)
    (h : apartM kd ops = true → Sim Tryz.prog I 34 [str tx, .fn (.func f) [] [], .fn (.func 35) [] [.ep [.sl 5 (ops.map emix)]]] [] (fun o τ => o = .ret (enR (readP lx rule kd ops tx)) ∧ τ = [])) :
    Sim Tryz.prog I 22 [str tx, .fn (.func f) [] [], .sl 5 (ops.map emix)] [] (fun o τ => o = .ret (enR (givenP lx rule kd ops tx)) ∧ τ = []) := by
  have gA := sim_apart I kd hk ops hl hsm
  rw [givenP]
  cases hA : apartM kd ops with
  | false =>
    rw [hA] at gA
    rw [if_pos rfl]
    unfold enR
    refine sim_body' Tryz.func22 rfl rfl rfl ?_
    repeat (any_goals (first | refine s_at ?_ | refine s_assign ?_ | refine s_load ?_ | refine s_pure ?_ | refine s_nil ?_ | refine aw_seq ?_ | refine aw_seqr ?_ | refine aw_true ?_ | refine s_alloc (fun _ => ?_) | refine s_box1 (fun _ => ?_) | refine s_store' ?_ | refine s_call0 gA ?_))
    refine aw_ret ?_; (repeat (first | refine then_ret ?_))
    refine post_of ⟨_, .ret _ _ ?_, rfl, rfl⟩ rvs pks
    exact .tu _ _ (.cons _ _ _ _ (sub_enc (.nil 6)) (Subs.refl _))
  | true =>
    rw [hA] at gA
    rw [if_neg (by simp)]
    have hr := h hA
    generalize readP lx rule kd ops tx = r at hr
    unfold enR at hr ⊢
    rw [enc_ag] at hr ⊢
    refine sim_body Tryz.func22 rfl rfl rfl ?_
    repeat (any_goals (first | refine aw_freeze 5 rfl (Pick.perm (by repeat (first | exact Pick.here _ | apply Pick.there))) (by intro x hx; rw [List.mem_singleton] at hx; subst hx; rfl) ?_ | refine s_at ?_ | refine s_skip ?_ | refine s_move ?_ | refine s_assign ?_ | refine s_loade ?_ | refine s_pure ?_ | refine s_nil ?_ | refine aw_seq ?_ | refine aw_seqr ?_ | refine aw_false ?_ | refine s_alloc (fun _ => ?_) | refine s_box1 (fun _ => ?_) | refine s_store' ?_ | refine s_call0 gA ?_ | refine s_call0 hr ?_))
    refine aw_ret ?_; (repeat (first | refine then_ret ?_))
    exact post_of ⟨rfl, rfl⟩ rvs pks
end
end Go.Proofs.YtjcocblohiglbaaGreatDoor
/- try: a call whose panics of kind stop become results. Conditions: none. -/
namespace Go.Proofs.YtjcocblohiglbaaGreatDoor
open Go.Dp Go.RowKit
set_option linter.unusedVariables false
set_option linter.unusedSimpArgs false
/-- Where the panic was caught: the two results are laid. -/
def caughtW (w : World) (ba be : Nat) (p er : Int) : World := (((w.alloc (Obj.cells #[Value.int IntKind.i64 er, Value.int IntKind.i64 p] 105)).setCell ⟨ba, 0, none⟩ (.int .i64 p)).setCell ⟨be, 0, none⟩ (.int .i64 er)).drew
set_option maxRecDepth 100000 in
set_option maxHeartbeats 1000000 in
theorem try_wrong (ba be : Nat) (x y p er : Int) (older : List PanicEntry) (w : World) (hc : w.cell? ⟨ba, 0, none⟩ = some (.int .i64 x)) (hz : w.frozen? ⟨ba, 0, none⟩ = false) (hc2 : w.cell? ⟨be, 0, none⟩ = some (.int .i64 y)) (hz2 : w.frozen? ⟨be, 0, none⟩ = false) (hne : ¬ ba = be) :
    CallsD Tryz.prog 73 #[.pointer (some ⟨ba, 0, none⟩), .pointer (some ⟨be, 0, none⟩)] (.panicking ({ v := .iface 105 (.agg #[.int .i64 er, .int .i64 p]), recovered := false } :: older)) w fun e u' w' =>
      e = .returned (.tuple #[]) ∧ u' = .panicking ({ v := .iface 105 (.agg #[.int .i64 er, .int .i64 p]), recovered := true } :: older) ∧ w' = caughtW w ba be p er := by
  have hta : ∀ (v : Value) (W : World), (Instr.typeAssert (.iface 105 v) 20 105 true).run Tryz.prog W = .ok (.tuple #[v, .bool true]) W := fun v W => by kernel_rfl
  have hba : ba < w.heap.size := World.block_lt_of_cell? w _ hc
  have hbe : be < w.heap.size := World.block_lt_of_cell? w _ hc2
  have hne2 : ¬ be = ba := fun e => hne e.symm
  refine callsD_of_wpS Tryz.func73 rfl fun c₀ cs hu => ?_
  apply wpS_seq
  apply wpS_region
  simp [wpOpsS, go_sem, recoverD, hu, Tryz.ntmps73, Exit.thenS]
  rw [show (#[Value.pointer (some ⟨ba, 0, none⟩), Value.pointer (some ⟨be, 0, none⟩)] ++ (Array.replicate 13 undef).setIfInBounds 3 (Value.iface 105 (Value.agg #[Value.int IntKind.i64 er, Value.int IntKind.i64 p]))) = #[Value.pointer (some ⟨ba, 0, none⟩), Value.pointer (some ⟨be, 0, none⟩), undef, undef, undef, Value.iface 105 (Value.agg #[Value.int IntKind.i64 er, Value.int IntKind.i64 p]), undef, undef, undef, undef, undef, undef, undef, undef, undef] by kernel_rfl]
  refine wpS_of_wp ?_
  go_wp2
  generalize hW : w.alloc (Obj.cells #[Value.int IntKind.i64 er, Value.int IntKind.i64 p] 105) = W1
  have hB1 : Below w.heap.size w W1 := hW ▸ (Below.refl w.heap.size w).alloc (Nat.le_refl _) _
  have hT : W1.heap[w.heap.size]? = some (Obj.cells #[Value.int IntKind.i64 er, Value.int IntKind.i64 p] 105 (0, 0)) := by rw [← hW]; exact Array.getElem?_push_size
  have c1 : W1.cell? ⟨ba, 0, none⟩ = some (.int .i64 x) := (hB1.cell (p := ⟨ba, 0, none⟩) hba).trans hc
  have c2 : W1.cell? ⟨be, 0, none⟩ = some (.int .i64 y) := (hB1.cell (p := ⟨be, 0, none⟩) hbe).trans hc2
  have f1 : W1.frozen? ⟨ba, 0, none⟩ = false := (hB1.frozen (p := ⟨ba, 0, none⟩) hba).trans hz
  have f2 : W1.frozen? ⟨be, 0, none⟩ = false := (hB1.frozen (p := ⟨be, 0, none⟩) hbe).trans hz2
  have n1 : ¬ w.heap.size = ba := by omega
  have n2 : ¬ w.heap.size = be := by omega
  have n3 : ¬ ba = w.heap.size := by omega
  have n4 : ¬ be = w.heap.size := by omega
  have k0 : W1.cell? ⟨w.heap.size, 0, none⟩ = some (.int .i64 er) := by rw [cell_of_row W1 _ 0 _ _ _ hT]; rfl
  have k1 : W1.cell? ⟨w.heap.size, 1, none⟩ = some (.int .i64 p) := by rw [cell_of_row W1 _ 1 _ _ _ hT]; rfl
  have hfin : ((W1.setCell ⟨ba, 0, none⟩ (Value.int IntKind.i64 p)).setCell ⟨be, 0, none⟩ (Value.int IntKind.i64 er)).drew = caughtW w ba be p er := by unfold caughtW; rw [hW]
  have HB1 := Lib.hid hB1
  clear hW hT hc hc2 hz hz2 hB1 hba hbe
  generalize hb9 : w.heap.size = b9 at n1 n2 n3 n4 k0 k1 ⊢
  go_region
  go_wp2
  simp [bodyPostS, results, Tryz.results73]
set_option maxRecDepth 100000 in
set_option maxHeartbeats 1000000 in
theorem try_idle (pa pe : Option Addr) (w : World) :
    CallsD Tryz.prog 73 #[.pointer pa, .pointer pe] .returning w fun e u' w' => e = .returned (.tuple #[]) ∧ u' = .returning ∧ w' = w := by
  refine callsD_of_wpS Tryz.func73 rfl fun c₀ cs hu => ?_
  apply wpS_seq
  apply wpS_region
  simp [wpOpsS, go_sem, recoverD, hu, Tryz.ntmps73, Exit.thenS]
  rw [show (#[Value.pointer pa, Value.pointer pe] ++ (Array.replicate 13 undef).setIfInBounds 3 Value.nilIface) = #[Value.pointer pa, Value.pointer pe, undef, undef, undef, Value.nilIface, undef, undef, undef, undef, undef, undef, undef, undef, undef] by kernel_rfl]
  refine wpS_of_wp ?_
  go_wp2
  cases c₀
  simp_all [bodyPostS, results, Tryz.results73]
/-- What try makes of what a closure comes to. -/
def TryPost (R : Out → List Rs → Prop) (o : Out) (τ : List Rs) : Prop := (R (.ret (.tu [])) τ ∧ o = .ret (.tu [i64 0, i64 0])) ∨ ∃ e p, R (.pan (stopV e p)) τ ∧ o = .ret (.tu [i64 p, i64 e])
set_option maxRecDepth 100000 in
set_option maxHeartbeats 1000000 in
theorem sim_try {I : World → Prop} {f : FuncId} {fs cs : List AV} {σ : List Rs} {R : Out → List Rs → Prop} (h : Sim Tryz.prog I f (fs ++ cs) σ R) (hR : ∀ o τ, R o τ → o = .ret (.tu []) ∨ ∃ e p, o = .pan (stopV e p)) :
    Sim Tryz.prog I 55 [.fn (.func f) fs cs] σ (TryPost R) := by
  refine ⟨⟨_, _, Tryz.func55, rfl, rfl⟩, fun w0 g w fr vs hI hRel hv => ?_⟩
  obtain ⟨v, rfl⟩ : ∃ v, vs = [v] := by
    match vs, hv.1 with
    | [v], _ => exact ⟨v, rfl⟩
  have hf := hv.2 0 v _ rfl rfl
  cases hf with
  | fn _ first captured _ _ hsz hcz h1 h2 =>
    obtain ⟨fn, c, he1, he2, he3⟩ := h.1
    have r1 := (Rel.box (vs := #[Value.int IntKind.i64 0]) (cs := [i64 0]) hRel 3 (VRs.cons (.sc _) (VRs.nil _ _)) (fun x hx => by rw [List.mem_singleton] at hx; subst hx; exact .inl rfl)).2
    have r2 := (Rel.box (vs := #[Value.int IntKind.i64 0]) (cs := [i64 0]) r1 28 (VRs.cons (.sc _) (VRs.nil _ _)) (fun x hx => by rw [List.mem_singleton] at hx; subst hx; exact .inl rfl)).2
    go_enter_defers Tryz.func55, Tryz.ntmps55
    go_wp2_with fail
    rw [run_enter ⟨fn, c, he1, he2, he3⟩]
    show Calls _ _ _ _ _
    have x1 := (Rel.box (vs := #[Value.int IntKind.i64 0]) (cs := [i64 0]) hRel 3 (VRs.cons (.sc _) (VRs.nil _ _)) (fun x hx => by rw [List.mem_singleton] at hx; subst hx; exact .inl rfl)).1
    have x2 := (Rel.box (vs := #[Value.int IntKind.i64 0]) (cs := [i64 0]) r1 28 (VRs.cons (.sc _) (VRs.nil _ _)) (fun x hx => by rw [List.mem_singleton] at hx; subst hx; exact .inl rfl)).1
    have hsz1 : (w.alloc (Obj.cells #[Value.int IntKind.i64 0] 3 (0, 0))).heap.size = w.heap.size + 1 := Array.size_push _
    rw [hsz1] at r2
    have r3 : Rel w0 g (σ ++ (.box (w.heap.size + 1) [i64 0] 28 :: .box w.heap.size [i64 0] 3 :: fr)) _ := r2.perm ((List.perm_append_comm_assoc [_, _] σ fr))
    have hargs : VRs g ((w.alloc (Obj.cells #[Value.int IntKind.i64 0] 3)).alloc (Obj.cells #[Value.int IntKind.i64 0] 28)) (first.toList ++ captured.toList) (fs ++ cs) :=
      VRs.mono (x1.trans x2) (VRs.append ⟨by simpa using hsz, fun i x y hx hy => h1 i x y (by simpa using hx) hy⟩ ⟨by simpa using hcz, fun i x y hx hy => h2 i x y (by simpa using hx) hy⟩)
    have hcall := h.2 w0 g _ _ _ hI r3 hargs
    rw [show (first.toList ++ captured.toList).toArray = first ++ captured by simp] at hcall
    refine hcall.mono ?_
    rintro e w' ⟨g', σ', o, hE, hRl, ho, hr⟩
    have hB : w.heap.size + 1 < w'.heap.size := by
      have := hE.size
      have h2 : ((w.alloc (Obj.cells #[Value.int IntKind.i64 0] 3)).alloc (Obj.cells #[Value.int IntKind.i64 0] 28)).heap.size = w.heap.size + 1 + 1 := by
        show (Array.push _ _).size = _
        rw [Array.size_push]
        exact congrArg (· + 1) hsz1
      omega
    obtain ⟨c1, z1⟩ := hRl.cell_at (b := w.heap.size) (v := .int .i64 0) (t := 3) (by simp)
    obtain ⟨c2, z2⟩ := hRl.cell_at (b := w.heap.size + 1) (v := .int .i64 0) (t := 28) (by simp)
    have hR4 : Rel w0 g' (.box w.heap.size [i64 0] 3 :: .box (w.heap.size + 1) [i64 0] 28 :: (σ' ++ fr)) w' :=
      hRl.perm ((List.perm_append_comm_assoc σ' [_, _] fr).trans (List.Perm.swap _ _ _))
    have hxt := (x1.trans x2).trans hE
    clear hcall hargs r3 r2 r1 x1 x2 hv h1 h2 hRel hRl h
    rcases hR _ _ hr with rfl | ⟨er, p, rfl⟩
    · cases e with
      | returned v =>
        have hv' : v = .tuple #[] := by
          have h0 : VR g' w' v (.tu []) := ho
          cases h0 with
          | tu xs cs hl h => congr 1; exact Array.eq_empty_of_size_eq_zero (by simpa using hl)
        subst hv'
        obtain ⟨y1, s1⟩ := hR4.cell (v := .int .i64 0) (y := i64 0) (.sc _) rfl
        obtain ⟨y2, s2⟩ := (s1.perm (List.Perm.swap _ _ _)).cell (v := .int .i64 0) (y := i64 0) (.sc _) rfl
        have hfin : Ext g w g' ((w'.setCell ⟨w.heap.size, 0, none⟩ (.int .i64 0)).setCell ⟨w.heap.size + 1, 0, none⟩ (.int .i64 0)) ∧ Rel w0 g' (σ' ++ fr) ((w'.setCell ⟨w.heap.size, 0, none⟩ (.int .i64 0)).setCell ⟨w.heap.size + 1, 0, none⟩ (.int .i64 0)) :=
          ⟨(hxt.trans y1).trans y2, s2.sub ((List.sublist_cons_self _ _).trans (List.sublist_cons_self _ _))⟩
        have HF := Lib.hid hfin
        have HR := Lib.hid hr
        clear hfin s1 s2 y1 y2 hR4 hxt hE hr ho
        have n1 : ¬ w.heap.size = w.heap.size + 1 := by omega
        generalize hb0 : w.heap.size = b0 at *
        go_wp2_with fail
        refine leaves_cons (f := 73) (args := #[.pointer (some ⟨b0, 0, none⟩), .pointer (some ⟨b0 + 1, 0, none⟩)]) (by simp) (by simp [go_sem]) ?_
        refine (try_idle _ _ _).mono ?_
        rintro e u' w'' ⟨rfl, rfl, rfl⟩
        simp [Leaves, settle, results, Tryz.results55, go_sem, c1, c2]
        exact ⟨g', HF.out.1, σ', HF.out.2, .ret (.tu [i64 0, i64 0]), (scs_VR _ _ [.int .i64 0, .int .i64 0]).tup, .inl ⟨HR.out, rfl⟩⟩
      | panicked c => exact ho.elim
      | outgrown => exact ho.elim
    · cases e with
      | returned v => exact ho.elim
      | outgrown => exact ho.elim
      | panicked ch =>
        have hch : ch = stopV er p := ho
        subst hch
        have rb := Rel.box (vs := #[Value.int .i64 er, Value.int .i64 p]) (cs := [i64 er, i64 p]) hR4 105 (VRs.cons (.sc _) (VRs.cons (.sc _) (VRs.nil _ _))) (fun x hx => by
          rcases List.mem_cons.1 hx with rfl | hx
          · exact .inl rfl
          · rw [List.mem_singleton] at hx; subst hx; exact .inl rfl)
        have q0 := rb.2.sub (List.sublist_cons_self _ _)
        obtain ⟨y1, s1⟩ := q0.cell (v := .int .i64 p) (y := i64 p) (.sc _) rfl
        obtain ⟨y2, s2⟩ := (s1.perm (List.Perm.swap _ _ _)).cell (v := .int .i64 er) (y := i64 er) (.sc _) rfl
        obtain ⟨y3, s3⟩ := s2.drew
        have d1 := s3.cell_at (b := w.heap.size) (v := .int .i64 p) (t := 3) (by simp)
        have d2 := s3.cell_at (b := w.heap.size + 1) (v := .int .i64 er) (t := 28) (by simp)
        have hfin : Ext g w g' (caughtW w' w.heap.size (w.heap.size + 1) p er) ∧ Rel w0 g' (σ' ++ fr) (caughtW w' w.heap.size (w.heap.size + 1) p er) :=
          ⟨(((hxt.trans rb.1).trans y1).trans y2).trans y3, s3.sub ((List.sublist_cons_self _ _).trans (List.sublist_cons_self _ _))⟩
        have e1 : (caughtW w' w.heap.size (w.heap.size + 1) p er).cell? ⟨w.heap.size, 0, none⟩ = some (.int .i64 p) := d1.1
        have e2 : (caughtW w' w.heap.size (w.heap.size + 1) p er).cell? ⟨w.heap.size + 1, 0, none⟩ = some (.int .i64 er) := d2.1
        have HF := Lib.hid hfin
        have HR := Lib.hid hr
        clear hfin s1 s2 s3 y1 y2 y3 q0 rb d1 d2 hR4 hxt hE hr ho
        have n1 : ¬ w.heap.size = w.heap.size + 1 := by omega
        generalize hb0 : w.heap.size = b0 at *
        go_wp2_with fail
        refine leaves_cons (f := 73) (args := #[.pointer (some ⟨b0, 0, none⟩), .pointer (some ⟨b0 + 1, 0, none⟩)]) (by simp) (by simp [go_sem]) ?_
        refine (try_wrong b0 (b0 + 1) 0 0 p er [] _ c1 z1 c2 z2 n1).mono ?_
        rintro e u' w'' ⟨rfl, rfl, rfl⟩
        simp [Leaves, settle, results, Tryz.results55, go_sem, e1, e2]
        exact ⟨g', HF.out.1, σ', HF.out.2, .ret (.tu [i64 p, i64 er]), (scs_VR _ _ [.int .i64 p, .int .i64 er]).tup, .inr ⟨er, p, HR.out, rfl⟩⟩
end Go.Proofs.YtjcocblohiglbaaGreatDoor
/- What is read, within try. Conditions: none. -/
namespace Go.Proofs.YtjcocblohiglbaaGreatDoor
open Go.Dp
set_option linter.unusedVariables false
set_option linter.unusedSimpArgs false
/-- What a rule and operations make of tokens. -/
def readB (rule : ByteArray → List Tk → Nat → List (Nat × Nat) → Res Nd) (kd : ByteArray → Int) (ops : List Mx) (tx : ByteArray) (T : List Tk) : Rd3 :=
  match rule tx T 0 [] with
    | .bad q => ⟨zeroN, here tx T q, 20⟩
    | .ok n q ex =>
      if q < T.length then ⟨zeroN, here tx T q, 20⟩
      else if apartM kd ops = false then ⟨zeroN, 0, 21⟩
      else match solveL T (tabM true ops) (tabM false ops) ex [] with
        | .bad q => ⟨zeroN, here tx T q, 22⟩
        | .ok es _ => if cnt (fill es n) > 60000 ∨ dep (fill es n) > 400 then ⟨zeroN, 0, 2⟩ else ⟨fill es n, 0, 0⟩
theorem readP_eq (lx : ByteArray → List Tk × Int × Int) (rule : ByteArray → List Tk → Nat → List (Nat × Nat) → Res Nd) (kd : ByteArray → Int) (ops : List Mx) (tx : ByteArray) :
    readP lx rule kd ops tx = if (lx tx).2.2 ≠ 0 then ⟨zeroN, (lx tx).2.1, (lx tx).2.2⟩ else readB rule kd ops tx (lx tx).1 := rfl
/-- The end of a reading: the node is laid, or there is a panic. -/
def RdPost (b13 : Nat) (r : Rd3) (o : Out) (τ : List Rs) : Prop :=
  (r.e = 0 ∧ o = .ret (.tu []) ∧ τ = [.box b13 (enc r.n).cells 27]) ∨ (r.e ≠ 0 ∧ o = .pan (stopV r.e r.at_) ∧ τ = [])
section
variable (I : World → Prop)
set_option maxRecDepth 20000 in set_option maxHeartbeats 4000000 in
theorem read1_end (n : Nd) (es : List Nd) (b13 b5 k8 : Nat) (hes : es.length ≤ 1000000) (hec : ∀ y, y ∈ es → cnt y ≤ 1000000000000) (hn : cnt n ≤ 1000000000000) (hp : Pend es.length n) (hf : cnt (fill es n) ≤ 1000000000000) (σ : List Rs) :
    AW Tryz.prog I Tryz.f56.ntmps (sndC (sndC (sndC (sndC (sndC (sndC (sndC (bodyC Tryz.f56)))))))) (Post Tryz.prog Tryz.f56 (RdPost b13 (if cnt (fill es n) > 60000 ∨ dep (fill es n) > 400 then ⟨zeroN, 0, 2⟩ else ⟨fill es n, 0, 0⟩))) [(4, ptr b13), (5, ptr b5), (8, .os k8 6 (encs es))] (.box b13 ty27.zl 27 :: .box b5 (enc n).cells 27 :: .tok k8 27 6 (encs es).length :: []) := by
  have g1 := sim_filled I es hes hec (cnt n) n (Nat.le_refl _) hn hp
  have g1' : Sim Tryz.prog I 59 [enc n, .os k8 6 (encs es)] [] (fun o τ => o = .ret (enc (fill es n)) ∧ τ = []) :=
    g1.weak (.cons _ _ _ _ (.refl _) (.cons _ _ _ _ (.os _ _ _ _ (Subs.refl _)) .nil)) (fun o τ h => ⟨o, by obtain ⟨rfl, _⟩ := h; exact .ret _ _ (.refl _), h⟩)
  have g2 := sim_Size I (cnt (fill es n)) (fill es n) (Nat.le_refl _) hf
  rw [enc_ag n] at g1' ⊢
  rw [enc_ag (fill es n)] at g1' g2
  have hd := dep_cnt _ (fill es n) (Nat.le_refl _)
  have hcl : (AV.ag [i64 n.kind, i64 n.n, str n.s, .sl 6 (encs n.l), i64 n.b, i64 n.e]).cells = [i64 n.kind, i64 n.n, str n.s, .sl 6 (encs n.l), i64 n.b, i64 n.e] := rfl
  rw [hcl]
  show AW _ _ _ (Code.seq _ _) _ _ _
  by_cases hbig : cnt (fill es n) > 60000 ∨ dep (fill es n) > 400
  · rw [if_pos hbig]
    repeat (any_goals (first | refine s_at ?_ | refine s_off ?_ | refine s_move ?_ | refine s_assign ?_ | refine s_load ?_ | refine s_pick1 ?_ | refine s_pick0 ?_ | refine s_pure ?_ | refine s_nil ?_ | refine aw_seq ?_ | refine aw_seqr ?_ | refine aw_true ?_ | refine s_store' ?_ | (refine s_cmp (fun h => ?_) (fun h => ?_) <;> try (exfalso; omega)) | refine s_call0 g1' ?_ | refine s_call0 g2 ?_ | refine s_throw (Conc.ag2 _ _) fun env' => ?_))
    all_goals
      (repeat (first | refine then_pan ?_))
      exact post_pan (.inr ⟨by decide, rfl, rfl⟩) pks
  · rw [if_neg hbig]
    repeat (any_goals (first | refine s_at ?_ | refine s_move ?_ | refine s_assign ?_ | refine s_load ?_ | refine s_pick0 ?_ | refine s_pure ?_ | refine s_nil ?_ | refine aw_seq ?_ | refine aw_seqr ?_ | refine aw_false ?_ | refine s_store' ?_ | (refine s_cmp (fun h => ?_) (fun h => ?_) <;> try (exfalso; omega)) | refine s_call0 g1' ?_ | refine s_call0 g2 ?_))
    refine s_void (τ := [.box b13 [i64 (fill es n).kind, i64 (fill es n).n, str (fill es n).s, .sl 6 (encs (fill es n).l), i64 (fill es n).b, i64 (fill es n).e] 27]) (.inl ⟨rfl, rfl, ?_⟩) pks
    rw [enc_ag (fill es n)]
    rfl
/-- What has to be known of what is read. -/
structure Good (T : List Tk) (A F : List (ByteArray × Mx)) (n : Nd) (ex : List (Nat × Nat)) : Prop where
  len : ex.length ≤ 1000000
  ext : ∀ x, x ∈ ex → x.1 ≤ x.2 ∧ x.2 ≤ T.length
  size : cnt n ≤ 1000000000000
  pend : Pend ex.length n
  done : ∀ es z, solveL T A F ex [] = .ok es z → (∀ y, y ∈ es → cnt y ≤ 1000000000000) ∧ cnt (fill es n) ≤ 1000000000000
theorem solveL_len {T : List Tk} {A F : List (ByteArray × Mx)} : ∀ {ex : List (Nat × Nat)} {acc es : List Nd} {z : Nat}, solveL T A F ex acc = .ok es z → es.length = acc.length + ex.length
  | [], acc, es, z, h => by
    rw [solveL] at h
    injection h with h _
    subst h; rfl
  | x :: l, acc, es, z, h => by
    rw [solveL] at h
    cases hx : sSolve T A F x with
    | bad q => rw [hx] at h; cases h
    | ok a q =>
      rw [hx] at h
      have := solveL_len (ex := l) (acc := acc ++ [a]) h
      rw [this, List.length_append, List.length_cons, List.length_cons, List.length_nil]
      omega
def readE (tx : ByteArray) (T : List Tk) (n : Nd) (r : SRes (List Nd)) : Rd3 := match r with
  | .bad q => ⟨zeroN, here tx T q, 22⟩
  | .ok es _ => if cnt (fill es n) > 60000 ∨ dep (fill es n) > 400 then ⟨zeroN, 0, 2⟩ else ⟨fill es n, 0, 0⟩
set_option maxRecDepth 20000 in set_option maxHeartbeats 4000000 in
theorem read1_loop (pr k b13 b5 b7 k8 bA bF : Nat) (tx : ByteArray) (T : List Tk) (A F : List (ByteArray × Mx)) (n : Nd) (q : Nat) (ex : List (Nat × Nat)) (hT : Fit T) (hN : Nums T) (hi : ItoaOk I) (hj : JoinOk I) (hA : ∀ q, q ∈ A → MxOk q.2) (hF : ∀ q, q ∈ F → MxOk q.2) (hg : Good T A F n ex) :
    AW Tryz.prog I Tryz.f56.ntmps (sndC (sndC (sndC (sndC (sndC (sndC (bodyC Tryz.f56))))))) (Post Tryz.prog Tryz.f56 (RdPost b13 (readE tx T n (solveL T A F ex [])))) [(1, .ep [ptr pr]), (4, ptr b13), (5, ptr b5), (7, ptr b7), (8, .os k8 6 (encs []))] [.tok k8 27 6 (encs []).length, .box b13 ty27.zl 27, .box b5 (enc n).cells 27, .box b7 [.sc (.map (some bA)), .sc (.map (some bF))] 108, .mp bA (kv A), .mp bF (kv F), rd pr tx T q (.os k 2 (ex.map eext)), .tok k 89 2 (ex.map eext).length] := by
  have hle : (ex.map eext).length = ex.length := List.length_map ..
  have hgl := hg.len
  have hend := fun es (hes : es.length ≤ 1000000) (hec : ∀ y, y ∈ es → cnt y ≤ 1000000000000) (hp : Pend es.length n) (hf : cnt (fill es n) ≤ 1000000000000) => read1_end I n es b13 b5 k8 hes hec hg.size hp hf []
  generalize hres : solveL T A F ex [] = res
  show AW _ _ _ (Code.seq _ _) _ _ _
  repeat (any_goals (first | refine s_at ?_ | refine s_move ?_ | refine s_load ?_ | refine s_loade ?_ | refine s_pure ?_ | refine s_nil ?_ | refine aw_seq ?_ | refine aw_seqr ?_ | refine aw_block ?_))
  refine aw_loop (fun s : Nat × List Nd => [(1, .ep [ptr pr]), (4, ptr b13), (5, ptr b5), (7, ptr b7), (8, .os k8 6 (encs s.2)), (38, .os k 2 (ex.map eext)), (39, i64 ((ex.map eext).length : Int)), (40, i64 (s.1 : Int))])
    (fun s => [.tok k8 27 6 (encs s.2).length, .box b13 ty27.zl 27, .box b5 (enc n).cells 27, .box b7 [.sc (.map (some bA)), .sc (.map (some bF))] 108, .mp bA (kv A), .mp bF (kv F), rd pr tx T q (.os k 2 (ex.map eext)), .tok k 89 2 (ex.map eext).length])
    (fun s => s.1 ≤ ex.length ∧ s.2.length = s.1 ∧ solveL T A F (ex.drop s.1) s.2 = res) (fun s => ex.length - s.1) (0, []) ⟨Nat.zero_le _, rfl, hres⟩ els [] (List.Perm.refl _) ?_
  rintro ⟨i, acc⟩ ⟨i1, i2, i3⟩
  dsimp only at i1 i2 i3 ⊢
  have hla := encs_length acc
  by_cases hi' : i < ex.length
  · have hx : ex[i]? = some (ex[i]'hi') := List.getElem?_eq_getElem hi'
    have hxm := List.getElem_mem hi'
    rw [List.drop_eq_getElem_cons hi', solveL] at i3
    generalize ex[i]'hi' = x at hx hxm i3
    obtain ⟨x1, x2⟩ := hg.ext x hxm
    have hsv := sim_solve I pr bA bF tx T A F x ⟨hT, x2, hN, hi, hj, hA, hF⟩ x1 q (.os k 2 (ex.map eext))
    have hxe : (ex.map eext)[i]? = some (.ag [i64 (x.1 : Int), i64 (x.2 : Int)]) := by rw [List.getElem?_map, hx]; rfl
    cases hs : sSolve T A F x with
    | bad q2 =>
      rw [hs] at i3 hsv
      dsimp only [SRes.bnd] at i3 hsv
      subst i3
      repeat (any_goals (first | refine s_at ?_ | refine s_skip ?_ | refine s_move ?_ | refine s_load ?_ | refine s_loade ?_ | refine s_nil ?_ | refine aw_seq ?_ | refine aw_seqr ?_ | refine aw_block ?_ | refine aw_true ?_ | refine s_alloc (fun _ => ?_) | refine s_store' ?_ | (refine s_cmp (fun h => ?_) (fun h => ?_) <;> try (exfalso; omega)) | refine s_elem i hxe ?_ | (refine s_call hsv (fun x τ' h => by cases h.2) (fun c τ' h env' => ?_); obtain ⟨rfl, h2⟩ := h; cases h2)))
      (repeat (first | refine then_pan ?_ | refine inb_pan ?_))
      exact post_pan (.inr ⟨(by show (22 : Int) ≠ 0; decide), rfl, rfl⟩) pks
    | ok a q2 =>
      rw [hs] at i3 hsv
      dsimp only [SRes.bnd] at i3 hsv
      have e4 : encs acc ++ [AV.ag [i64 a.kind, i64 a.n, str a.s, .sl 6 (encs a.l), i64 a.b, i64 a.e]] = encs (acc ++ [a]) := by rw [encs_append, ← enc_ag]; rfl
      rw [enc_ag a] at hsv
      repeat (any_goals (first | refine s_at ?_ | refine s_skip ?_ | refine s_move ?_ | refine s_assign ?_ | refine s_load ?_ | refine s_loade ?_ | refine s_nil ?_ | refine aw_seq ?_ | refine aw_seqr ?_ | refine aw_block ?_ | refine aw_true ?_ | refine s_alloc (fun _ => ?_) | refine s_store' ?_ | (refine s_cmp (fun h => ?_) (fun h => ?_) <;> try (exfalso; omega)) | refine s_elem i hxe ?_ | (refine s_call hsv (fun x τ' h => ?_) (fun c τ' h => by cases h.2); obtain ⟨rfl, h2⟩ := h; cases h2) | refine s_lit (fun kk2 => ?_) | refine s_append ?_ | refine s_add ?_))
      rw [e4]
      refine d_end fun env' he => ?_
      (repeat (first | refine then_nor ?_))
      refine ⟨(i + 1, acc ++ [a]), _, ⟨by dsimp only; omega, by dsimp only; rw [List.length_append, i2]; rfl, i3⟩, by dsimp only; omega, EnvLe.of_eq he els, Picks.perm pks⟩
  · obtain rfl : i = ex.length := by omega
    rw [List.drop_length, solveL] at i3
    subst i3
    obtain ⟨d1, d2⟩ := hg.done acc 0 hres
    have hpe := hg.pend
    rw [← i2] at hpe
    have hq := hend acc (by omega) d1 hpe d2
    repeat (any_goals (first | refine s_at ?_ | refine s_nil ?_ | refine aw_seq ?_ | refine aw_seqr ?_ | refine aw_false ?_ | (refine s_cmp (fun h => ?_) (fun h => ?_) <;> try (exfalso; omega))))
    refine aw_exit ?_; (repeat refine then_exit ?_); refine inb_exit ?_; refine then_nor ?_
    exact aw_to hq els pks
end
end Go.Proofs.YtjcocblohiglbaaGreatDoor
/- What is read, within try: the whole closure. Conditions: none. -/
namespace Go.Proofs.YtjcocblohiglbaaGreatDoor
open Go.Dp
set_option linter.unusedVariables false
set_option linter.unusedSimpArgs false
section
variable (I : World → Prop)
set_option maxRecDepth 20000 in set_option maxHeartbeats 4000000 in
theorem read1_mid (ops : List Mx) (hl : ops.length ≤ 1000000) (hne : ∀ m, m ∈ ops → m.parts ≠ []) (hap : Apt ops) (C : Code) (Q : Exit → Env → List Rs → Prop) (ep : AV) (b13 b5 : Nat) (r1 r2 r3 r4 : Rs)
    (hC : ∀ b7 k8 bA bF, AW Tryz.prog I Tryz.f56.ntmps C Q [(1, ep), (4, ptr b13), (5, ptr b5), (7, ptr b7), (8, .os k8 6 (encs []))] (.tok k8 27 6 (encs []).length :: .box b7 [.sc (.map (some bA)), .sc (.map (some bF))] 108 :: .mp bA (kv (tabM true ops)) :: .mp bF (kv (tabM false ops)) :: [r1, r2, r3, r4])) :
    AW Tryz.prog I Tryz.f56.ntmps (Code.seq (fstC (sndC (sndC (sndC (sndC (bodyC Tryz.f56)))))) (Code.seq (fstC (sndC (sndC (sndC (sndC (sndC (bodyC Tryz.f56))))))) C)) Q [(1, ep), (4, ptr b13), (5, ptr b5), (6, .sl 5 (ops.map emix))] [r1, r2, r3, r4] := by
  have hgth := sim_gathered I ops hl hne hap
  show AW _ _ _ (Code.seq (Code.region _ _ _) (Code.seq (Code.region _ _ _) C)) _ _ _
  repeat (any_goals (first | refine s_at ?_ | refine s_move ?_ | refine s_assign ?_ | refine s_nil ?_ | refine aw_seq ?_ | refine aw_seqr ?_ | refine s_alloc (fun _ => ?_) | refine s_store' ?_ | (refine s_call hgth (fun x τ' h => ?_) (fun c τ' h => by obtain ⟨_, _, h2, _⟩ := h; cases h2); obtain ⟨bA, bF, h2, rfl⟩ := h; cases h2)))
  exact aw_slottok 8 27 6 (fun k8 => aw_to (hC _ k8 _ _) els pks)
set_option maxRecDepth 20000 in set_option maxHeartbeats 4000000 in
theorem sim_read1 (kd : ByteArray → Int) (hk : KindOk I kd) (ops : List Mx) (hl : ops.length ≤ 1000000) (hsm : ∀ m, m ∈ ops → SmallM m) (hne : ∀ m, m ∈ ops → m.parts ≠ []) (rule : ByteArray → List Tk → Nat → List (Nat × Nat) → Res Nd) (f : FuncId) (tx : ByteArray) (T : List Tk)
    (hT : Fit T) (hN : Nums T) (hi : ItoaOk I) (hj : JoinOk I) (hA : ∀ q, q ∈ tabM true ops → MxOk q.2) (hF : ∀ q, q ∈ tabM false ops → MxOk q.2) (pr k b13 : Nat)
    (h0 : SimP I pr tx T k f [ptr pr] enc (rule tx T) 0 []) (hg : ∀ n q ex, rule tx T 0 [] = .ok n q ex → Good T (tabM true ops) (tabM false ops) n ex) :
    Sim Tryz.prog I 56 [.ep [.fn (.func f) [] []], .ep [ptr pr], .ep [.sl 5 (T.map etok)], .ep [.fn (.func 35) [] [.ep [.sl 5 (ops.map emix)]]], ptr b13] (.box b13 ty27.zl 27 :: Rdr pr tx T k 0 []) (RdPost b13 (readB rule kd ops tx T)) := by
  have hle : (T.map etok).length = T.length := List.length_map ..
  have hT' : T.length ≤ 1000000 := hT
  unfold SimP at h0
  replace h0 := h0 (Nat.zero_le _)
  unfold Rdr at h0 ⊢
  unfold readB
  cases hrule : rule tx T 0 [] with
  | bad q =>
    rw [hrule] at h0
    dsimp only at h0 ⊢
    refine sim_body Tryz.func56 rfl rfl rfl ?_
    repeat (any_goals (first | refine s_at ?_ | refine s_loade ?_ | refine aw_seq ?_ | refine aw_seqr ?_ | (refine s_callv h0 (fun x τ' h => by cases h.1) (fun c τ' h env' => ?_); obtain ⟨h2, p', e', rfl⟩ := h; cases h2)))
    (repeat (first | refine then_pan ?_))
    exact post_pan (.inr ⟨(by show (20 : Int) ≠ 0; decide), rfl, rfl⟩) pks
  | ok n q ex =>
    rw [hrule] at h0
    dsimp only at h0 ⊢
    have hgd := hg n q ex hrule
    have hgl := hgd.len
    have hxl : (ex.map eext).length = ex.length := List.length_map ..
    have hgv := sim_given1 I n ops
    have gA := sim_apart I kd hk ops hl hsm
    rw [enc_ag n] at h0 hgv
    by_cases hq : q < T.length
    · rw [if_pos hq]
      have hw := sim_wrong I pr tx T q (.os k 2 (ex.map eext)) hT (by omega)
      refine sim_body Tryz.func56 rfl rfl rfl ?_
      repeat (any_goals (first | refine s_at ?_ | refine s_loade ?_ | refine s_loadd ?_ | refine s_pure ?_ | refine s_nil ?_ | refine aw_seq ?_ | refine aw_seqr ?_ | refine aw_true ?_ | refine s_alloc (fun _ => ?_) | refine s_store' ?_ | (refine s_cmp (fun h => ?_) (fun h => ?_) <;> try (exfalso; omega)) | refine s_draw [] ?_ | (refine s_callv h0 (fun x τ' h => ?_) (fun c τ' h => by cases h.1); obtain ⟨h2, rfl, b1, b2⟩ := h; cases h2) | (refine s_call hw (fun x τ' h => by cases h.1) (fun c τ' h env' => ?_); obtain ⟨h2, rfl⟩ := h; cases h2)))
      (repeat (first | refine then_pan ?_))
      exact post_pan (.inr ⟨(by show (20 : Int) ≠ 0; decide), rfl, rfl⟩) pks
    · rw [if_neg hq]
      cases hap : apartM kd ops with
      | false =>
        rw [hap] at gA
        rw [if_pos rfl]
        refine sim_body Tryz.func56 rfl rfl rfl ?_
        repeat (any_goals (first | refine s_at ?_ | refine s_skip ?_ | refine s_move ?_ | refine s_assign ?_ | refine s_load ?_ | refine s_loade ?_ | refine s_loadd ?_ | refine s_pure ?_ | refine s_nil ?_ | refine aw_seq ?_ | refine aw_seqr ?_ | refine aw_true ?_ | refine aw_false ?_ | refine s_alloc (fun _ => ?_) | refine s_store' ?_ | (refine s_cmp (fun h => ?_) (fun h => ?_) <;> try (exfalso; omega)) | refine s_draw [] ?_ | (refine s_callv h0 (fun x τ' h => ?_) (fun c τ' h => by cases h.1); obtain ⟨h2, rfl, b1, b2⟩ := h; cases h2) | (refine s_callv hgv (fun x τ' h => ?_) (fun c τ' h => by cases h.1); obtain ⟨h2, rfl⟩ := h; cases h2) | refine s_call0 gA ?_ | refine s_throw (Conc.ag2 _ _) fun env' => ?_))
        (repeat (first | refine then_pan ?_))
        exact post_pan (.inr ⟨(by show (21 : Int) ≠ 0; decide), rfl, rfl⟩) pks
      | true =>
        rw [hap] at gA
        rw [if_neg (by simp)]
        have hap2 : aptL kd [] ops = true := by
          unfold apartM at hap
          rw [Bool.and_eq_true] at hap
          exact hap.2
        have hloop := fun b5 b7 k8 bA bF => read1_loop I pr k b13 b5 b7 k8 bA bF tx T _ _ n q ex hT hN hi hj hA hF hgd
        rw [enc_ag n] at hloop
        have hcl : (AV.ag [i64 n.kind, i64 n.n, str n.s, .sl 6 (encs n.l), i64 n.b, i64 n.e]).cells = [i64 n.kind, i64 n.n, str n.s, .sl 6 (encs n.l), i64 n.b, i64 n.e] := rfl
        rw [hcl] at hloop
        have hmid := fun b5 => read1_mid I ops hl hne (apt_of hap2).2 _ _ (.ep [ptr pr]) b13 b5 (.box b13 ty27.zl 27) (.box b5 [i64 n.kind, i64 n.n, str n.s, .sl 6 (encs n.l), i64 n.b, i64 n.e] 27) (rd pr tx T q (.os k 2 (ex.map eext))) (.tok k 89 2 (ex.map eext).length) (fun b7 k8 bA bF => aw_to (hloop b5 b7 k8 bA bF) els pks)
        show Sim _ _ _ _ _ (RdPost b13 (readE tx T n (solveL T (tabM true ops) (tabM false ops) ex [])))
        refine sim_body Tryz.func56 rfl rfl rfl ?_
        repeat (any_goals (first | exact aw_to (hmid _) els pks | refine s_at ?_ | refine s_skip ?_ | refine s_move ?_ | refine s_assign ?_ | refine s_load ?_ | refine s_loade ?_ | refine s_loadd ?_ | refine s_pure ?_ | refine s_nil ?_ | refine aw_seq ?_ | refine aw_seqr ?_ | refine aw_false ?_ | refine s_alloc (fun _ => ?_) | refine s_store' ?_ | (refine s_cmp (fun h => ?_) (fun h => ?_) <;> try (exfalso; omega)) | refine s_draw [] ?_ | (refine s_callv h0 (fun x τ' h => ?_) (fun c τ' h => by cases h.1); obtain ⟨h2, rfl, b1, b2⟩ := h; cases h2) | (refine s_callv hgv (fun x τ' h => ?_) (fun c τ' h => by cases h.1); obtain ⟨h2, rfl⟩ := h; cases h2) | refine s_call0 gA ?_))
end
end Go.Proofs.YtjcocblohiglbaaGreatDoor
