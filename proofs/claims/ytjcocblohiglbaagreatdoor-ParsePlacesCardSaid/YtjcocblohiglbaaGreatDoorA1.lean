/- The reader of specifications: its smallest functions. Conditions: none. -/
import Derived.Test.YtjcocblohiglbaaGreatDoorTy
namespace Go.Proofs.YtjcocblohiglbaaGreatDoor
open Go.Dp
set_option linter.unusedVariables false
set_option linter.unusedSimpArgs false
abbrev i64 (n : Int) : AV := .sc (.int .i64 n)
abbrev str (s : ByteArray) : AV := .sc (.string s)
abbrev boo (b : Bool) : AV := .sc (.bool b)
abbrev ptr (b : Nat) : AV := .sc (.pointer (some ⟨b, 0, none⟩))
/-- A token. -/
structure Tk where
  kind : Int
  n : Int
  s : ByteArray
  b : Nat
  e : Nat
def Tk.no : Tk := ⟨0, 0, ⟨#[]⟩, 0, 0⟩
def etok (t : Tk) : AV := .ag [i64 t.kind, i64 t.n, str t.s, i64 (t.b : Int), i64 (t.e : Int)]
def rdr (tx : ByteArray) (T : List Tk) (pos : Nat) (ex : AV) : List AV := [str tx, .sl 5 (T.map etok), i64 (pos : Int), ex]
def here (tx : ByteArray) (T : List Tk) (pos : Nat) : Nat := match T[pos]? with | some t => t.b | none => tx.size
def behind (T : List Tk) (pos : Nat) : Nat := match T[pos - 1]? with | some t => if pos = 0 then 0 else t.e | none => 0
def tokAt (T : List Tk) (pos : Nat) : Tk := T.getD pos Tk.no
def isT (t : Tk) (s : ByteArray) : Bool := (decide (t.kind = 2) || decide (t.kind = 5)) && decide (t.s = s)
abbrev rd (p : Nat) (tx : ByteArray) (T : List Tk) (pos : Nat) (ex : AV) : Rs := .box p (rdr tx T pos ex) 82
def stopV (e at_ : Int) : List PanicEntry := [{ v := .iface 105 (.agg #[.int .i64 e, .int .i64 at_]), recovered := false }]
/-- A number that a program may hold. -/
abbrev Fit (T : List Tk) : Prop := T.length ≤ 1000000
set_option maxRecDepth 20000 in set_option maxHeartbeats 4000000 in
theorem sim_isT (I : World → Prop) (t : Tk) (s : ByteArray) : Sim Tryz.prog I 46 [etok t, str s] [] (fun o τ => o = .ret (boo (isT t s)) ∧ τ = []) := by
  refine sim_body Tryz.func46 rfl rfl rfl ?_
  repeat (any_goals (first | refine s_at ?_ | refine s_off ?_ | refine s_move ?_ | refine s_assign ?_ | refine s_load ?_ | refine s_pick1 ?_ | refine s_pick0 ?_ | refine s_pure ?_ | refine s_nil ?_ | refine aw_seq ?_ | refine aw_seqr ?_ | refine s_box (fun _ => ?_) | refine s_cmp (fun h => ?_) (fun h => ?_) | refine s_cmps (fun h => ?_) (fun h => ?_)))
  all_goals
    refine aw_ret ?_; (repeat (first | refine then_ret ?_))
    refine (post_of ⟨?_, rfl⟩ rvs pks)
    simp [isT, oneOf, *]
section
variable (I : World → Prop) (p : Nat) (tx : ByteArray) (T : List Tk) (pos : Nat) (ex : AV)
set_option maxRecDepth 20000 in set_option maxHeartbeats 4000000 in
theorem sim_here (hT : Fit T) (hp : pos ≤ T.length) : Sim Tryz.prog I 60 [ptr p] [rd p tx T pos ex] (fun o τ => o = .ret (i64 (here tx T pos)) ∧ τ = [rd p tx T pos ex]) := by
  have hl : (T.map etok).length = T.length := List.length_map ..
  refine sim_body Tryz.func60 rfl rfl rfl ?_
  by_cases hlt : pos < T.length
  · have h1 : T[pos]? = some T[pos] := List.getElem?_eq_getElem hlt
    have h2 : (T.map etok)[pos]? = some (etok T[pos]) := by rw [List.getElem?_map, h1]; rfl
    repeat (any_goals (first | refine s_at ?_ | refine s_move ?_ | refine s_assign ?_ | refine s_loade ?_ | refine s_loadd ?_ | refine s_pure ?_ | refine s_nil ?_ | refine aw_seq ?_ | refine aw_seqr ?_ | refine aw_true ?_ | refine s_draw [] ?_ | (refine s_cmp (fun h => ?_) (fun h => ?_) <;> try (exfalso; omega)) | refine s_elem pos h2 ?_))
    refine aw_ret ?_; (repeat (first | refine then_ret ?_))
    refine (post_of ⟨?_, rfl⟩ rvs pks)
    rw [here, h1]; rfl
  · have h1 : T[pos]? = none := List.getElem?_eq_none (by omega)
    repeat (any_goals (first | refine s_at ?_ | refine s_skip ?_ | refine s_move ?_ | refine s_assign ?_ | refine s_load ?_ | refine s_loadd ?_ | refine s_pure ?_ | refine s_nil ?_ | refine aw_seq ?_ | refine aw_seqr ?_ | refine aw_false ?_ | refine s_draw [] ?_ | (refine s_cmp (fun h => ?_) (fun h => ?_) <;> try (exfalso; omega))))
    refine aw_ret ?_; (repeat (first | refine then_ret ?_))
    refine (post_of ⟨?_, rfl⟩ rvs pks)
    rw [here, h1]; rfl
set_option maxRecDepth 20000 in set_option maxHeartbeats 4000000 in
theorem sim_behind (hT : Fit T) (hp : pos ≤ T.length) : Sim Tryz.prog I 64 [ptr p] [rd p tx T pos ex] (fun o τ => o = .ret (i64 (behind T pos)) ∧ τ = [rd p tx T pos ex]) := by
  have hl : (T.map etok).length = T.length := List.length_map ..
  refine sim_body Tryz.func64 rfl rfl rfl ?_
  by_cases h0 : pos = 0
  · repeat' (first | refine s_at ?_ | refine s_move ?_ | refine s_assign ?_ | refine s_load ?_ | refine s_pure ?_ | refine s_nil ?_ | refine aw_seq ?_ | refine aw_seqr ?_ | refine aw_true ?_ | (refine s_cmp (fun h => ?_) (fun h => ?_) <;> try (exfalso; omega)))
    refine aw_ret ?_; (repeat (first | refine then_ret ?_))
    refine (post_of ⟨?_, rfl⟩ rvs pks)
    rw [behind, h0]
    cases T[0 - 1]? <;> rfl
  · have h1 : T[pos - 1]? = some T[pos - 1] := List.getElem?_eq_getElem (by omega)
    have h2 : (T.map etok)[pos - 1]? = some (etok T[pos - 1]) := by rw [List.getElem?_map, h1]; rfl
    repeat (any_goals (first | refine s_at ?_ | refine s_skip ?_ | refine s_move ?_ | refine s_assign ?_ | refine s_load ?_ | refine s_loade ?_ | refine s_loadd ?_ | refine s_pure ?_ | refine s_nil ?_ | refine aw_seq ?_ | refine aw_seqr ?_ | refine aw_false ?_ | refine s_draw [] ?_ | (refine s_cmp (fun h => ?_) (fun h => ?_) <;> try (exfalso; omega)) | refine s_sub ?_ | refine s_elem (pos - 1) h2 ?_))
    refine aw_ret ?_; (repeat (first | refine then_ret ?_))
    refine (post_of ⟨?_, rfl⟩ rvs pks)
    rw [behind, h1]
    simp only [if_neg h0]; rfl
set_option maxRecDepth 20000 in set_option maxHeartbeats 4000000 in
theorem sim_ahead (hT : Fit T) (n : Nat) (hn : n ≤ 1) (hp : pos ≤ T.length) : Sim Tryz.prog I 65 [ptr p, i64 (n : Int)] [rd p tx T pos ex] (fun o τ => o = .ret (etok (tokAt T (pos + n))) ∧ τ = [rd p tx T pos ex]) := by
  have hl : (T.map etok).length = T.length := List.length_map ..
  refine sim_body Tryz.func65 rfl rfl rfl ?_
  by_cases hlt : pos + n < T.length
  · have h1 : T[pos + n]? = some T[pos + n] := List.getElem?_eq_getElem hlt
    have h2 : (T.map etok)[pos + n]? = some (etok T[pos + n]) := by rw [List.getElem?_map, h1]; rfl
    repeat (any_goals (first | refine s_at ?_ | refine s_move ?_ | refine s_loade ?_ | refine s_loadd ?_ | refine s_pure ?_ | refine s_nil ?_ | refine aw_seq ?_ | refine aw_seqr ?_ | refine aw_true ?_ | refine s_alloc (fun _ => ?_) | refine s_store' ?_ | refine s_draw [12] ?_ | (refine s_cmp (fun h => ?_) (fun h => ?_) <;> try (exfalso; omega)) | refine s_add ?_ | refine s_elem (pos + n) h2 ?_))
    refine aw_ret ?_; (repeat (first | refine then_ret ?_))
    refine (post_of ⟨?_, rfl⟩ rvs pks)
    rw [tokAt, List.getD_eq_getElem?_getD, h1]; rfl
  · have h1 : T[pos + n]? = none := List.getElem?_eq_none (by omega)
    repeat (any_goals (first | refine s_at ?_ | refine s_skip ?_ | refine s_move ?_ | refine s_loadd ?_ | refine s_pure ?_ | refine s_nil ?_ | refine aw_seq ?_ | refine aw_seqr ?_ | refine aw_false ?_ | refine s_alloc (fun _ => ?_) | refine s_store' ?_ | refine s_draw [12] ?_ | (refine s_cmp (fun h => ?_) (fun h => ?_) <;> try (exfalso; omega)) | refine s_add ?_))
    refine aw_ret ?_; (repeat (first | refine then_ret ?_))
    refine (post_of ⟨?_, rfl⟩ rvs pks)
    rw [tokAt, List.getD_eq_getElem?_getD, h1]; rfl
set_option maxRecDepth 20000 in set_option maxHeartbeats 4000000 in
theorem sim_next (hT : Fit T) (hp : pos ≤ T.length) : Sim Tryz.prog I 45 [ptr p] [rd p tx T pos ex] (fun o τ => o = .ret (etok (tokAt T pos)) ∧ τ = [rd p tx T pos ex]) := by
  refine sim_body Tryz.func45 rfl rfl rfl ?_
  repeat (any_goals (first | refine s_at ?_ | refine s_move ?_ | refine s_nil ?_ | refine aw_seq ?_ | refine aw_seqr ?_ | refine s_alloc (fun _ => ?_) | refine s_store' ?_ | refine s_callr (sim_ahead I _ _ _ _ _ hT 0 (by omega) hp) ?_))
  refine aw_ret ?_; (repeat (first | refine then_ret ?_))
  exact (post_of ⟨rfl, rfl⟩ rvs pks)
set_option maxRecDepth 20000 in set_option maxHeartbeats 4000000 in
theorem sim_is (hT : Fit T) (hp : pos ≤ T.length) (s : ByteArray) : Sim Tryz.prog I 62 [ptr p, str s] [rd p tx T pos ex] (fun o τ => o = .ret (boo (isT (tokAt T pos) s)) ∧ τ = [rd p tx T pos ex]) := by
  refine sim_body Tryz.func62 rfl rfl rfl ?_
  repeat (any_goals (first | refine s_at ?_ | refine s_move ?_ | refine s_assign ?_ | refine s_nil ?_ | refine aw_seq ?_ | refine aw_seqr ?_ | refine s_callr (sim_next I _ _ _ _ _ hT hp) ?_ | refine s_call0 (sim_isT I _ _) ?_))
  refine aw_ret ?_; (repeat (first | refine then_ret ?_))
  exact (post_of ⟨rfl, rfl⟩ rvs pks)
end
end Go.Proofs.YtjcocblohiglbaaGreatDoor
/- The reader of specifications: words that may or must be there; nodes begun and ended. Conditions: none. -/
namespace Go.Proofs.YtjcocblohiglbaaGreatDoor
open Go.Dp
set_option linter.unusedVariables false
set_option linter.unusedSimpArgs false
theorem rdr_succ (tx : ByteArray) (T : List Tk) (pos : Nat) (ex : AV) : [str tx, .sl 5 (T.map etok), .sc (.int .i64 ((pos : Int) + 1)), ex] = rdr tx T (pos + 1) ex := by simp [rdr]
section
variable (I : World → Prop) (p : Nat) (tx : ByteArray) (T : List Tk) (pos : Nat) (ex : AV)
set_option maxRecDepth 20000 in set_option maxHeartbeats 4000000 in
theorem may_yes (hT : Fit T) (hp : pos ≤ T.length) (s : ByteArray) (hi : isT (tokAt T pos) s = true) : Sim Tryz.prog I 38 [ptr p, str s] [rd p tx T pos ex] (fun o τ => o = .ret (boo true) ∧ τ = [rd p tx T (pos + 1) ex]) := by
  refine sim_body Tryz.func38 rfl rfl rfl ?_
  have hs := sim_is I p tx T pos ex hT hp s
  rw [hi] at hs
  repeat (any_goals (first | refine s_at ?_ | refine s_skip ?_ | refine s_move ?_ | refine s_assign ?_ | refine s_load ?_ | refine s_pure ?_ | refine s_nil ?_ | refine aw_seq ?_ | refine aw_seqr ?_ | refine aw_false ?_ | refine s_store' ?_ | refine s_callr hs ?_ | refine s_add ?_))
  refine aw_ret ?_; (repeat (first | refine then_ret ?_))
  rw [rdr_succ]
  refine (post_of ⟨?_, rfl⟩ rvs pks)
  rfl
set_option maxRecDepth 20000 in set_option maxHeartbeats 4000000 in
theorem may_no (hT : Fit T) (hp : pos ≤ T.length) (s : ByteArray) (hi : isT (tokAt T pos) s = false) : Sim Tryz.prog I 38 [ptr p, str s] [rd p tx T pos ex] (fun o τ => o = .ret (boo false) ∧ τ = [rd p tx T pos ex]) := by
  refine sim_body Tryz.func38 rfl rfl rfl ?_
  have hs := sim_is I p tx T pos ex hT hp s
  rw [hi] at hs
  repeat (any_goals (first | refine s_at ?_ | refine s_move ?_ | refine s_assign ?_ | refine s_pure ?_ | refine s_nil ?_ | refine aw_seq ?_ | refine aw_seqr ?_ | refine aw_true ?_ | refine s_callr hs ?_))
  refine aw_ret ?_; (repeat (first | refine then_ret ?_))
  refine (post_of ⟨?_, rfl⟩ rvs pks)
  rfl
set_option maxRecDepth 20000 in set_option maxHeartbeats 4000000 in
theorem sim_wrong (hT : Fit T) (hp : pos ≤ T.length) : Sim Tryz.prog I 44 [ptr p] [rd p tx T pos ex] (fun o τ => o = .pan (stopV 20 (here tx T pos)) ∧ τ = [rd p tx T pos ex]) := by
  refine sim_body Tryz.func44 rfl rfl rfl ?_
  repeat (any_goals (first | refine s_at ?_ | refine s_move ?_ | refine s_pure ?_ | refine aw_seqr ?_ | refine s_callr (sim_here I _ _ _ _ _ hT hp) ?_))
  refine s_throw (Conc.ag2 _ _) fun env' => ?_
  (repeat (first | refine then_pan ?_))
  exact post_pan ⟨rfl, rfl⟩ pks
set_option maxRecDepth 20000 in set_option maxHeartbeats 4000000 in
theorem must_yes (hT : Fit T) (hp : pos ≤ T.length) (s : ByteArray) (hi : isT (tokAt T pos) s = true) : Sim Tryz.prog I 41 [ptr p, str s] [rd p tx T pos ex] (fun o τ => o = .ret (.tu []) ∧ τ = [rd p tx T (pos + 1) ex]) := by
  refine sim_body Tryz.func41 rfl rfl rfl ?_
  repeat (any_goals (first | refine s_at ?_ | refine s_move ?_ | refine s_pure ?_ | refine s_nil ?_ | refine aw_seq ?_ | refine aw_seqr ?_ | refine aw_false ?_ | (refine s_call (may_yes I p tx T pos ex hT hp s hi) (fun x τ' h => ?_) (fun c τ' h => by cases h.1); obtain ⟨h1, rfl⟩ := h; cases h1)))
  exact s_void ⟨rfl, rfl⟩ pks
set_option maxRecDepth 20000 in set_option maxHeartbeats 4000000 in
theorem must_no (hT : Fit T) (hp : pos ≤ T.length) (s : ByteArray) (hi : isT (tokAt T pos) s = false) : Sim Tryz.prog I 41 [ptr p, str s] [rd p tx T pos ex] (fun o τ => o = .pan (stopV 20 (here tx T pos)) ∧ τ = [rd p tx T pos ex]) := by
  refine sim_body Tryz.func41 rfl rfl rfl ?_
  repeat (any_goals (first | refine s_at ?_ | refine s_move ?_ | refine s_pure ?_ | refine s_nil ?_ | refine aw_seq ?_ | refine aw_seqr ?_ | refine aw_true ?_ | (refine s_call (may_no I p tx T pos ex hT hp s hi) (fun x τ' h => ?_) (fun c τ' h => by cases h.1); obtain ⟨h1, rfl⟩ := h; cases h1) | (refine s_call (sim_wrong I _ _ _ _ _ hT hp) (fun x τ' h => by cases h.1) (fun c τ' h env' => ?_); obtain ⟨h1, rfl⟩ := h; cases h1)))
  (repeat (first | refine then_pan ?_))
  exact post_pan ⟨rfl, rfl⟩ pks
/-- A node's cells. -/
abbrev nd (k n : Int) (s : ByteArray) (l : AV) (b e : Int) : List AV := [i64 k, i64 n, str s, l, i64 b, i64 e]
set_option maxRecDepth 20000 in set_option maxHeartbeats 4000000 in
theorem sim_node (hT : Fit T) (hp : pos ≤ T.length) (k : Int) : Sim Tryz.prog I 36 [ptr p, i64 k] [rd p tx T pos ex] (fun o τ => o = .ret (.ag (nd k 0 ⟨#[]⟩ (.sc (.slice none 0 0)) (here tx T pos) 0)) ∧ τ = [rd p tx T pos ex]) := by
  refine sim_body Tryz.func36 rfl rfl rfl ?_
  repeat (any_goals (first | refine s_at ?_ | refine s_move ?_ | refine s_pure ?_ | refine s_nil ?_ | refine aw_seq ?_ | refine aw_seqr ?_ | refine s_alloc (fun _ => ?_) | refine s_store' ?_ | refine s_callr (sim_here I _ _ _ _ _ hT hp) ?_))
  refine aw_ret ?_; (repeat (first | refine then_ret ?_))
  refine (post_of ⟨?_, rfl⟩ rvs pks)
  rfl
set_option maxRecDepth 20000 in set_option maxHeartbeats 4000000 in
theorem sim_empty (hT : Fit T) (hp : pos ≤ T.length) : Sim Tryz.prog I 39 [ptr p] [rd p tx T pos ex] (fun o τ => o = .ret (.ag (nd 8 0 ⟨#[]⟩ (.sc (.slice none 0 0)) (here tx T pos) (here tx T pos))) ∧ τ = [rd p tx T pos ex]) := by
  refine sim_body Tryz.func39 rfl rfl rfl ?_
  repeat (any_goals (first | refine s_at ?_ | refine s_move ?_ | refine s_pure ?_ | refine s_nil ?_ | refine aw_seq ?_ | refine aw_seqr ?_ | refine s_alloc (fun _ => ?_) | refine s_store' ?_ | refine s_callr (sim_here I _ _ _ _ _ hT hp) ?_))
  refine aw_ret ?_; (repeat (first | refine then_ret ?_))
  refine (post_of ⟨?_, rfl⟩ rvs pks)
  rfl
set_option maxRecDepth 20000 in set_option maxHeartbeats 4000000 in
theorem sim_done (hT : Fit T) (hp : pos ≤ T.length) (k n : Int) (s : ByteArray) (l : AV) (h1 : l.one = true) (b e : Int) : Sim Tryz.prog I 42 [ptr p, .ag (nd k n s l b e)] [rd p tx T pos ex] (fun o τ => o = .ret (.ag (nd k n s l b (max b (behind T pos)))) ∧ τ = [rd p tx T pos ex]) := by
  refine sim_body Tryz.func42 rfl rfl rfl ?_
  repeat (any_goals (first | refine s_at ?_ | refine s_move ?_ | refine s_load ?_ | refine s_loadd ?_ | refine s_pure ?_ | refine s_nil ?_ | refine aw_seq ?_ | refine aw_seqr ?_ | refine s_alloc (fun _ => ?_) | refine s_box (fun _ => ?_) | refine s_store' ?_ | refine s_draw [6] ?_ | refine s_callrd (sim_behind I _ _ _ _ _ hT hp) ?_))
  refine aw_ret ?_; (repeat (first | refine then_ret ?_))
  refine (post_of ⟨?_, rfl⟩ rvs pks)
  rw [show (max b (behind T pos : Int)) = if (behind T pos : Int) > b then (behind T pos : Int) else b by split <;> omega]
  rfl
end
/-! The same as steps of a walk. -/
section
variable {I : World → Prop} {p : Nat} {tx : ByteArray} {T : List Tk} {pos : Nat} {ex : AV} {N : Nat} {ops : Array Oper} {md : Md} {Q : Exit → Env → List Rs → Prop} {H : List (Nat × Option Rs)} {i : Nat} {c : List Nat} {env : Env} {σ σ1 l : List Rs} {d : Option Tmp} {tt : TypeId} {ps : String} {af : Array Edge} {gd : Option (Nat × Bool)} {ar : Array Operand} {ts : Array TypeId} {s : ByteArray}
theorem c_my (k : Der Tryz.prog I N ops md Q H c (env.put d (boo true)) (rd p tx T (pos + 1) ex :: σ1)) (ha : ar.toList.map env.val = [ptr p, str s] := by rfl)
    (hpk : Picks [rd p tx T pos ex] σ σ1 ∧ keepOk md i σ1 H := by (refine And.intro ?_ ?_; (focus ((repeat (first | exact Go.Dp.Picks.nil _ | (apply Go.Dp.Picks.cons; focus ((repeat (first | exact Go.Dp.Pick.here _ | apply Go.Dp.Pick.there)); (first | done | fail))))); (first | done | fail))); (repeat' (first | exact trivial | (refine And.intro (fun h => ?_) ?_) | exact absurd h (by decide +kernel) | exact Go.Dp.Pick.mem (by ((repeat (first | exact Go.Dp.Pick.here _ | apply Go.Dp.Pick.there)); (first | done | fail))))); (first | done | fail))) (hm : md.okE i = true := by rfl) (hT : Fit T := by assumption) (hp : pos ≤ T.length := by omega) (hi : isT (tokAt T pos) s = true := by assumption) :
    At Tryz.prog I N ops md Q H i c ⟨d, .call ⟨.value (.func 38), ar, ts⟩, tt, ps, af, gd⟩ env σ :=
  s_call (may_yes I p tx T pos ex hT hp s hi) (fun x τ' h => by obtain ⟨h1, rfl⟩ := h; cases h1; exact k) (fun c τ' h => by cases h.1) ha hpk hm
theorem c_mn (k : Der Tryz.prog I N ops md Q H c (env.put d (boo false)) (rd p tx T (pos) ex :: σ1)) (ha : ar.toList.map env.val = [ptr p, str s] := by rfl)
    (hpk : Picks [rd p tx T pos ex] σ σ1 ∧ keepOk md i σ1 H := by (refine And.intro ?_ ?_; (focus ((repeat (first | exact Go.Dp.Picks.nil _ | (apply Go.Dp.Picks.cons; focus ((repeat (first | exact Go.Dp.Pick.here _ | apply Go.Dp.Pick.there)); (first | done | fail))))); (first | done | fail))); (repeat' (first | exact trivial | (refine And.intro (fun h => ?_) ?_) | exact absurd h (by decide +kernel) | exact Go.Dp.Pick.mem (by ((repeat (first | exact Go.Dp.Pick.here _ | apply Go.Dp.Pick.there)); (first | done | fail))))); (first | done | fail))) (hm : md.okE i = true := by rfl) (hT : Fit T := by assumption) (hp : pos ≤ T.length := by omega) (hi : isT (tokAt T pos) s = false := by assumption) :
    At Tryz.prog I N ops md Q H i c ⟨d, .call ⟨.value (.func 38), ar, ts⟩, tt, ps, af, gd⟩ env σ :=
  s_call (may_no I p tx T pos ex hT hp s hi) (fun x τ' h => by obtain ⟨h1, rfl⟩ := h; cases h1; exact k) (fun c τ' h => by cases h.1) ha hpk hm
theorem c_uy (k : Der Tryz.prog I N ops md Q H c (env.put d (.tu [])) (rd p tx T (pos + 1) ex :: σ1)) (ha : ar.toList.map env.val = [ptr p, str s] := by rfl)
    (hpk : Picks [rd p tx T pos ex] σ σ1 ∧ keepOk md i σ1 H := by (refine And.intro ?_ ?_; (focus ((repeat (first | exact Go.Dp.Picks.nil _ | (apply Go.Dp.Picks.cons; focus ((repeat (first | exact Go.Dp.Pick.here _ | apply Go.Dp.Pick.there)); (first | done | fail))))); (first | done | fail))); (repeat' (first | exact trivial | (refine And.intro (fun h => ?_) ?_) | exact absurd h (by decide +kernel) | exact Go.Dp.Pick.mem (by ((repeat (first | exact Go.Dp.Pick.here _ | apply Go.Dp.Pick.there)); (first | done | fail))))); (first | done | fail))) (hm : md.okE i = true := by rfl) (hT : Fit T := by assumption) (hp : pos ≤ T.length := by omega) (hi : isT (tokAt T pos) s = true := by assumption) :
    At Tryz.prog I N ops md Q H i c ⟨d, .call ⟨.value (.func 41), ar, ts⟩, tt, ps, af, gd⟩ env σ :=
  s_call (must_yes I p tx T pos ex hT hp s hi) (fun x τ' h => by obtain ⟨h1, rfl⟩ := h; cases h1; exact k) (fun c τ' h => by cases h.1) ha hpk hm
theorem c_un (k : ∀ env', Q (.panic (stopV 20 (here tx T pos))) env' (rd p tx T pos ex :: σ1)) (ha : ar.toList.map env.val = [ptr p, str s] := by rfl)
    (hpk : Picks [rd p tx T pos ex] σ σ1 ∧ keepOk md i σ1 H := by (refine And.intro ?_ ?_; (focus ((repeat (first | exact Go.Dp.Picks.nil _ | (apply Go.Dp.Picks.cons; focus ((repeat (first | exact Go.Dp.Pick.here _ | apply Go.Dp.Pick.there)); (first | done | fail))))); (first | done | fail))); (repeat' (first | exact trivial | (refine And.intro (fun h => ?_) ?_) | exact absurd h (by decide +kernel) | exact Go.Dp.Pick.mem (by ((repeat (first | exact Go.Dp.Pick.here _ | apply Go.Dp.Pick.there)); (first | done | fail))))); (first | done | fail))) (hm : md.okE i = true := by rfl) (hT : Fit T := by assumption) (hp : pos ≤ T.length := by omega) (hi : isT (tokAt T pos) s = false := by assumption) :
    At Tryz.prog I N ops md Q H i c ⟨d, .call ⟨.value (.func 41), ar, ts⟩, tt, ps, af, gd⟩ env σ :=
  s_call (must_no I p tx T pos ex hT hp s hi) (fun x τ' h => by cases h.1) (fun c τ' h env' => by obtain ⟨h1, rfl⟩ := h; cases h1; exact k env') ha hpk hm
theorem c_wr (k : ∀ env', Q (.panic (stopV 20 (here tx T pos))) env' (rd p tx T pos ex :: σ1)) (ha : ar.toList.map env.val = [ptr p] := by rfl)
    (hpk : Picks [rd p tx T pos ex] σ σ1 ∧ keepOk md i σ1 H := by (refine And.intro ?_ ?_; (focus ((repeat (first | exact Go.Dp.Picks.nil _ | (apply Go.Dp.Picks.cons; focus ((repeat (first | exact Go.Dp.Pick.here _ | apply Go.Dp.Pick.there)); (first | done | fail))))); (first | done | fail))); (repeat' (first | exact trivial | (refine And.intro (fun h => ?_) ?_) | exact absurd h (by decide +kernel) | exact Go.Dp.Pick.mem (by ((repeat (first | exact Go.Dp.Pick.here _ | apply Go.Dp.Pick.there)); (first | done | fail))))); (first | done | fail))) (hm : md.okE i = true := by rfl) (hT : Fit T := by assumption) (hp : pos ≤ T.length := by omega) :
    At Tryz.prog I N ops md Q H i c ⟨d, .call ⟨.value (.func 44), ar, ts⟩, tt, ps, af, gd⟩ env σ :=
  s_call (sim_wrong I p tx T pos ex hT hp) (fun x τ' h => by cases h.1) (fun c τ' h env' => by obtain ⟨h1, rfl⟩ := h; cases h1; exact k env') ha hpk hm
theorem c_nd {k0 : Int} (k : Der Tryz.prog I N ops seqMd Q [] c (env.put d (.ag (nd k0 0 ⟨#[]⟩ (.sc (.slice none 0 0)) (here tx T pos) 0))) σ) (ha : ar.toList.map env.val = [ptr p, i64 k0] := by rfl) (hpk : Pick (rd p tx T pos ex) σ l := by ((repeat (first | exact Go.Dp.Pick.here _ | apply Go.Dp.Pick.there)); (first | done | fail))) (hT : Fit T := by assumption) (hp : pos ≤ T.length := by omega) :
    At Tryz.prog I N ops seqMd Q [] i c ⟨d, .call ⟨.value (.func 36), ar, ts⟩, tt, ps, af, gd⟩ env σ :=
  s_callr (sim_node I p tx T pos ex hT hp k0) k ha hpk
theorem c_em (k : Der Tryz.prog I N ops seqMd Q [] c (env.put d (.ag (nd 8 0 ⟨#[]⟩ (.sc (.slice none 0 0)) (here tx T pos) (here tx T pos)))) σ) (ha : ar.toList.map env.val = [ptr p] := by rfl) (hpk : Pick (rd p tx T pos ex) σ l := by ((repeat (first | exact Go.Dp.Pick.here _ | apply Go.Dp.Pick.there)); (first | done | fail))) (hT : Fit T := by assumption) (hp : pos ≤ T.length := by omega) :
    At Tryz.prog I N ops seqMd Q [] i c ⟨d, .call ⟨.value (.func 39), ar, ts⟩, tt, ps, af, gd⟩ env σ :=
  s_callr (sim_empty I p tx T pos ex hT hp) k ha hpk
theorem c_nx (k : Der Tryz.prog I N ops seqMd Q [] c (env.put d (etok (tokAt T pos))) σ) (ha : ar.toList.map env.val = [ptr p] := by rfl) (hpk : Pick (rd p tx T pos ex) σ l := by ((repeat (first | exact Go.Dp.Pick.here _ | apply Go.Dp.Pick.there)); (first | done | fail))) (hT : Fit T := by assumption) (hp : pos ≤ T.length := by omega) :
    At Tryz.prog I N ops seqMd Q [] i c ⟨d, .call ⟨.value (.func 45), ar, ts⟩, tt, ps, af, gd⟩ env σ :=
  s_callr (sim_next I p tx T pos ex hT hp) k ha hpk
theorem c_dn {k0 n0 b0 e0 : Int} {l0 : AV} (k : Der Tryz.prog I N ops seqMd Q [] c (env.put d (.ag (nd k0 n0 s l0 b0 (max b0 (behind T pos))))) σ) (ha : ar.toList.map env.val = [ptr p, .ag (nd k0 n0 s l0 b0 e0)] := by rfl) (hpk : Pick (rd p tx T pos ex) σ l := by ((repeat (first | exact Go.Dp.Pick.here _ | apply Go.Dp.Pick.there)); (first | done | fail))) (hT : Fit T := by assumption) (hp : pos ≤ T.length := by omega) (h1 : l0.one = true := by first | rfl | assumption) :
    At Tryz.prog I N ops seqMd Q [] i c ⟨d, .call ⟨.value (.func 42), ar, ts⟩, tt, ps, af, gd⟩ env σ :=
  s_callr (sim_done I p tx T pos ex hT hp k0 n0 s l0 h1 b0 e0) k ha hpk
end
end Go.Proofs.YtjcocblohiglbaaGreatDoor
/- The reader of specifications: trees, and what a reading comes to; names and lists. Conditions: none. -/
namespace Go.Proofs.YtjcocblohiglbaaGreatDoor
open Go.Dp
set_option linter.unusedVariables false
set_option linter.unusedSimpArgs false
/-- A node. -/
inductive Nd where
  | mk (kind n : Int) (s : ByteArray) (l : List Nd) (b e : Int)
  deriving Inhabited
def Nd.kind : Nd → Int | .mk k _ _ _ _ _ => k
def Nd.n : Nd → Int | .mk _ n _ _ _ _ => n
def Nd.s : Nd → ByteArray | .mk _ _ s _ _ _ => s
def Nd.l : Nd → List Nd | .mk _ _ _ l _ _ => l
def Nd.b : Nd → Int | .mk _ _ _ _ b _ => b
def Nd.e : Nd → Int | .mk _ _ _ _ _ e => e
mutual
def enc : Nd → AV
  | .mk k n s l b e => .ag [i64 k, i64 n, str s, .sl 6 (encs l), i64 b, i64 e]
def encs : List Nd → List AV
  | [] => []
  | x :: l => enc x :: encs l
end
theorem encs_map : ∀ (l : List Nd), encs l = l.map enc
  | [] => rfl
  | x :: l => by rw [encs, List.map_cons, encs_map l]
theorem encs_append (l m : List Nd) : encs (l ++ m) = encs l ++ encs m := by rw [encs_map, encs_map, encs_map, List.map_append]
theorem encs_length (l : List Nd) : (encs l).length = l.length := by rw [encs_map, List.length_map]
theorem encs_get {l : List Nd} {i : Nat} {x : Nd} (h : l[i]? = some x) : (encs l)[i]? = some (enc x) := by rw [encs_map, List.getElem?_map, h]; rfl
theorem enc_ag (x : Nd) : enc x = .ag [i64 x.kind, i64 x.n, str x.s, .sl 6 (encs x.l), i64 x.b, i64 x.e] := by cases x; rw [enc]; rfl
/-- What a reading comes to: a value, where, the extents; or the token that is too much. -/
inductive Res (α : Type) where
  | ok (a : α) (pos : Nat) (ex : List (Nat × Nat))
  | bad (pos : Nat)
def eext (x : Nat × Nat) : AV := .ag [i64 (x.1 : Int), i64 (x.2 : Int)]
/-- The reader, and the row of its extents. -/
def Rdr (p : Nat) (tx : ByteArray) (T : List Tk) (k : Nat) (pos : Nat) (ex : List (Nat × Nat)) : List Rs := [rd p tx T pos (.os k 2 (ex.map eext)), .tok k 89 2 (ex.map eext).length]
section
variable (I : World → Prop) (p : Nat) (tx : ByteArray) (T : List Tk) (k : Nat)
/-- A function of the reader comes to what the plain one says. -/
def SimP {α : Type} (f : FuncId) (args : List AV) (en : α → AV) (m : Nat → List (Nat × Nat) → Res α) (pos : Nat) (ex : List (Nat × Nat)) : Prop :=
  ex.length ≤ pos → Sim Tryz.prog I f args (Rdr p tx T k pos ex) (fun o τ => match m pos ex with
    | .ok a pos' ex' => o = .ret (en a) ∧ τ = Rdr p tx T k pos' ex' ∧ pos ≤ pos' ∧ pos' ≤ T.length ∧ ex'.length ≤ pos'
    | .bad q => o = .pan (stopV 20 (here tx T q)) ∧ ∃ pos' ex', τ = Rdr p tx T k pos' ex')
end
/-- A name. -/
def pName (tx : ByteArray) (T : List Tk) (pos : Nat) (ex : List (Nat × Nat)) : Res Nd :=
  if (tokAt T pos).kind = 1 then .ok (.mk 7 0 (tokAt T pos).s [] (here tx T pos) (max (here tx T pos : Int) (behind T (pos + 1)))) (pos + 1) ex else .bad pos
theorem tokAt_lt {T : List Tk} {pos : Nat} (h : (tokAt T pos).kind ≠ 0) : pos < T.length := by
  rcases Nat.lt_or_ge pos T.length with h1 | h1
  · exact h1
  · exfalso; apply h; rw [tokAt, List.getD_eq_getElem?_getD, List.getElem?_eq_none h1]; rfl
section
variable (I : World → Prop) (p : Nat) (tx : ByteArray) (T : List Tk) (k : Nat)
set_option maxRecDepth 20000 in set_option maxHeartbeats 4000000 in
theorem sim_name (hT : Fit T) (pos : Nat) (ex : List (Nat × Nat)) (hp : pos ≤ T.length) : SimP I p tx T k 80 [ptr p] enc (pName tx T) pos ex := by
  unfold SimP Rdr
  intro hxl
  have hx : ∀ t : Tk, ones [i64 t.kind, i64 t.n, str t.s, i64 (t.b : Int), i64 (t.e : Int)] = true := fun _ => rfl
  by_cases hk : (tokAt T pos).kind = 1
  · rw [pName, if_pos hk]
    have hlt := tokAt_lt (T := T) (pos := pos) (by omega)
    refine sim_body' Tryz.func80 rfl rfl rfl ?_
    repeat (any_goals (first | refine s_at ?_ | refine s_skip ?_ | refine s_move ?_ | refine s_load ?_ | refine s_pure ?_ | refine s_nil ?_ | refine aw_seq ?_ | refine aw_seqr ?_ | refine aw_false ?_ | refine s_alloc (fun _ => ?_) | refine s_store' ?_ | refine s_callr (sim_next I _ _ _ _ _ hT hp) ?_ | (refine s_cmp (fun h => ?_) (fun h => ?_) <;> try (exfalso; omega)) | refine s_callr (sim_node I _ _ _ _ _ hT hp _) ?_ | refine s_add ?_ | (rw [rdr_succ]; refine s_callr (sim_done I p tx T (pos + 1) _ hT (by omega) _ _ _ _ rfl _ _) ?_)))
    refine aw_ret ?_; (repeat (first | refine then_ret ?_))
    refine (post_of ⟨_, .ret _ _ ?_, rfl, rfl, by omega, by omega⟩ rvs pks)
    rw [enc]
    exact .ag _ _ (.cons _ _ _ _ (.refl _) (.cons _ _ _ _ (.refl _) (.cons _ _ _ _ (.refl _) (.cons _ _ _ _ (.nil 6) (Subs.refl _)))))
  · rw [pName, if_neg hk]
    refine sim_body' Tryz.func80 rfl rfl rfl ?_
    repeat (any_goals (first | refine s_at ?_ | refine s_move ?_ | refine s_load ?_ | refine s_pure ?_ | refine s_nil ?_ | refine aw_seq ?_ | refine aw_seqr ?_ | refine aw_true ?_ | refine s_alloc (fun _ => ?_) | refine s_store' ?_ | refine s_callr (sim_next I _ _ _ _ _ hT hp) ?_ | (refine s_cmp (fun h => ?_) (fun h => ?_) <;> try (exfalso; omega)) | (refine s_call (sim_wrong I _ _ _ _ _ hT hp) (fun x τ' h => by cases h.1) (fun c τ' h env' => ?_); obtain ⟨h1, rfl⟩ := h; cases h1)))
    (repeat (first | refine then_pan ?_))
    exact post_pan ⟨_, .pan _, rfl, _, _, rfl⟩ pks
end
end Go.Proofs.YtjcocblohiglbaaGreatDoor
/- The reader of specifications: rows of nodes. Conditions: none. -/
namespace Go.Proofs.YtjcocblohiglbaaGreatDoor
open Go.Dp
set_option linter.unusedVariables false
set_option linter.unusedSimpArgs false
def cm : ByteArray := ⟨#[44]⟩
/-- Nodes with "," between. -/
def pRowsL (T : List Tk) (one : Nat → List (Nat × Nat) → Res Nd) : Nat → List Nd → Nat → List (Nat × Nat) → Res (List Nd)
  | 0, _, pos, _ => .bad pos
  | n + 1, acc, pos, ex =>
    if isT (tokAt T pos) cm = true then
      match one (pos + 1) ex with
      | .ok a q e => pRowsL T one n (acc ++ [a]) q e
      | .bad q => .bad q
    else .ok acc pos ex
def pRows (T : List Tk) (one : Nat → List (Nat × Nat) → Res Nd) (pos : Nat) (ex : List (Nat × Nat)) : Res (List Nd) :=
  match one pos ex with
  | .ok a q e => pRowsL T one (T.length + 1) [a] q e
  | .bad q => .bad q
theorem isT_lt {T : List Tk} {pos : Nat} {s : ByteArray} (h : isT (tokAt T pos) s = true) : pos < T.length := by
  refine tokAt_lt (T := T) fun h0 => ?_
  simp [isT, h0] at h
theorem encs_elts (x : Nd) : (enc x).cells.length = 6 ∧ ones (enc x).cells = true := by cases x; rw [enc]; exact ⟨rfl, rfl⟩
section
variable (I : World → Prop) (p : Nat) (tx : ByteArray) (T : List Tk) (k : Nat)
set_option maxRecDepth 20000 in set_option maxHeartbeats 4000000 in
theorem sim_rows (hT : Fit T) (f : FuncId) (fs cs : List AV) (one : Nat → List (Nat × Nat) → Res Nd) (hone : ∀ pos ex, pos ≤ T.length → SimP I p tx T k f (fs ++ cs) enc one pos ex) (pos : Nat) (ex : List (Nat × Nat)) (hp : pos ≤ T.length) :
    SimP I p tx T k 79 [ptr p, .fn (.func f) fs cs] (fun l => .sl 6 (encs l)) (pRows T one) pos ex := by
  have h0 := hone pos ex hp
  unfold SimP Rdr at h0 ⊢
  intro hxl
  replace h0 := h0 hxl
  unfold pRows
  cases h1 : one pos ex with
  | bad q =>
    rw [h1] at h0
    refine sim_body' Tryz.func79 rfl rfl rfl ?_
    repeat (any_goals (first | refine s_at ?_ | refine s_move ?_ | refine s_assign ?_ | refine s_nil ?_ | refine aw_seq ?_ | refine aw_seqr ?_ | (refine s_callv h0 (fun x τ' h => by cases h.1) (fun c τ' h env' => ?_); obtain ⟨h2, p', e', rfl⟩ := h; cases h2)))
    (repeat (first | refine then_pan ?_))
    exact post_pan ⟨_, .pan _, rfl, _, _, rfl⟩ pks
  | ok a q e =>
    rw [h1] at h0
    dsimp only at h0 ⊢
    obtain ⟨a1, a2⟩ := encs_elts a
    generalize hres : pRowsL T one (T.length + 1) [a] q e = res
    refine sim_body' Tryz.func79 rfl rfl rfl ?_
    repeat (any_goals (first | refine s_at ?_ | refine s_move ?_ | refine s_assign ?_ | refine s_nil ?_ | refine aw_seq ?_ | refine aw_seqr ?_ | refine aw_block ?_ | (refine s_callv h0 (fun x τ' h => ?_) (fun c τ' h => by cases h.1); obtain ⟨h2, rfl, b1, b2⟩ := h; cases h2) | (rw [enc_ag] at *; refine s_lit (fun kk => ?_))))
    rw [← enc_ag]
    refine aw_loop (fun s : List Nd × Nat × Nat × List (Nat × Nat) => [(0, ptr p), (1, .fn (.func f) fs cs), (5, .os kk 6 (encs s.1))])
      (fun s => [.tok kk 27 6 (encs s.1).length, rd p tx T s.2.2.1 (.os k 2 (s.2.2.2.map eext)), .tok k 89 2 (s.2.2.2.map eext).length])
      (fun s => pRowsL T one s.2.1 s.1 s.2.2.1 s.2.2.2 = res ∧ T.length < s.2.1 + s.2.2.1 ∧ s.2.2.1 ≤ T.length ∧ pos ≤ s.2.2.1 ∧ s.1.length ≤ s.2.2.1 + 1 ∧ s.2.2.2.length ≤ s.2.2.1) (fun s => T.length - s.2.2.1) ([a], T.length + 1, q, e)
      ⟨hres, by dsimp only; omega, b2.1, b1, by simp, b2.2⟩ els [] (by rw [encs_length]; exact List.Perm.refl _) ?_
    rintro ⟨acc, n, pos1, ex1⟩ ⟨i1, i2, i3, i4, i5, i6⟩
    dsimp only at i1 i2 i3 i4 i5 i6 ⊢
    have hle := encs_length acc
    have hT' : T.length ≤ 1000000 := hT
    obtain ⟨n, rfl⟩ : ∃ m, n = m + 1 := ⟨n - 1, by omega⟩
    rw [pRowsL] at i1
    cases hc : isT (tokAt T pos1) cm with
    | false =>
      rw [hc, if_neg (by simp)] at i1
      subst i1
      repeat (any_goals (first | refine s_at ?_ | refine s_move ?_ | refine s_nil ?_ | refine aw_seq ?_ | refine aw_seqr ?_ | refine aw_false ?_ | (refine s_call (may_no I p tx T pos1 _ hT i3 cm hc) (fun x τ' h => ?_) (fun c τ' h => by cases h.1); obtain ⟨h2, rfl⟩ := h; cases h2)))
      refine aw_exit ?_; (repeat refine then_exit ?_); refine inb_exit ?_; refine then_nor ?_
      repeat (any_goals (first | refine s_at ?_ | refine s_move ?_ | refine s_assign ?_ | refine s_nil ?_ | refine aw_seq ?_ | refine aw_seqr ?_))
      refine aw_ret ?_; (repeat (first | refine then_ret ?_))
      refine post_of ⟨_, .ret _ _ ?_, rfl, rfl, i4, i3, i6⟩ rvs pks
      exact .os _ _ _ _ (Subs.refl _)
    | true =>
      rw [hc, if_pos rfl] at i1
      have hlt := isT_lt hc
      have h3 := hone (pos1 + 1) ex1 (by omega)
      unfold SimP Rdr at h3
      replace h3 := h3 (by omega)
      cases h4 : one (pos1 + 1) ex1 with
      | bad q2 =>
        rw [h4] at i1 h3
        subst i1
        repeat (any_goals (first | refine s_at ?_ | refine s_skip ?_ | refine s_move ?_ | refine s_nil ?_ | refine aw_seq ?_ | refine aw_seqr ?_ | refine aw_block ?_ | refine aw_true ?_ | (refine s_call (may_yes I p tx T pos1 _ hT i3 cm hc) (fun x τ' h => ?_) (fun c τ' h => by cases h.1); obtain ⟨h2, rfl⟩ := h; cases h2) | (refine s_callv h3 (fun x τ' h => by cases h.1) (fun c τ' h env' => ?_); obtain ⟨h2, p', e', rfl⟩ := h; cases h2)))
        (repeat (first | refine then_pan ?_ | refine inb_pan ?_))
        exact post_pan ⟨_, .pan _, rfl, _, _, rfl⟩ pks
      | ok a2 q2 e2 =>
        rw [h4] at i1 h3
        dsimp only at i1 h3
        rw [enc_ag] at h3
        repeat (any_goals (first | refine s_at ?_ | refine s_skip ?_ | refine s_move ?_ | refine s_assign ?_ | refine s_nil ?_ | refine aw_seq ?_ | refine aw_seqr ?_ | refine aw_block ?_ | refine aw_true ?_ | (refine s_call (may_yes I p tx T pos1 _ hT i3 cm hc) (fun x τ' h => ?_) (fun c τ' h => by cases h.1); obtain ⟨h2, rfl⟩ := h; cases h2) | (refine s_callv h3 (fun x τ' h => ?_) (fun c τ' h => by cases h.1); obtain ⟨h2, rfl, c1, c2⟩ := h; cases h2) | refine s_lit (fun kk2 => ?_) | refine s_append ?_))
        refine d_end fun env' he => inb_nor (then_nor ?_)
        have e4 : encs acc ++ [AV.ag [i64 a2.kind, i64 a2.n, str a2.s, AV.sl 6 (encs a2.l), i64 a2.b, i64 a2.e]] = encs (acc ++ [a2]) := by rw [encs_append, ← enc_ag]; rfl
        rw [e4]
        refine ⟨(acc ++ [a2], n, q2, e2), ?dr, ⟨i1, ?_, c2.1, ?_, ?_, c2.2⟩, ?_, EnvLe.of_eq he ?_, ?perm⟩
        case perm => exact Picks.perm pks
        · dsimp only; omega
        · dsimp only; omega
        · dsimp only; rw [List.length_append]; simp only [List.length_cons, List.length_nil]; omega
        · dsimp only; omega
        · refine EnvLe.of_list fun x hx => ?_
          simp only [List.mem_cons, List.not_mem_nil, or_false] at hx
          rcases hx with rfl | rfl | rfl
          · rfl
          · rfl
          · exact congrArg (AV.os kk 6) e4
end
end Go.Proofs.YtjcocblohiglbaaGreatDoor
/- The reader of specifications: lists and names. Conditions: none. -/
namespace Go.Proofs.YtjcocblohiglbaaGreatDoor
open Go.Dp
set_option linter.unusedVariables false
set_option linter.unusedSimpArgs false
/-- Nodes as a list; w where there are none. -/
def pList (w : Nd) (l : List Nd) : Nd :=
  match l with
  | [] => w
  | a :: r => .mk 8 0 ⟨#[]⟩ (a :: r) a.b ((a :: r).getLast (by simp)).e
def emptyAt (b : Int) : Nd := .mk 8 0 ⟨#[]⟩ [] b b
theorem sub_enc {k n : Int} {s : ByteArray} {l : List Nd} {b e : Int} {x : AV} (h : Sub x (.sl 6 (encs l))) : Sub (.ag (nd k n s x b e)) (enc (.mk k n s l b e)) := by
  rw [enc]
  exact .ag _ _ (.cons _ _ _ _ (.refl _) (.cons _ _ _ _ (.refl _) (.cons _ _ _ _ (.refl _) (.cons _ _ _ _ h (Subs.refl _)))))
theorem sub_encx {x : Nd} {v : AV} (h : Sub v (.sl 6 (encs x.l))) : Sub (.ag (nd x.kind x.n x.s v x.b x.e)) (enc x) := by cases x; exact sub_enc h
def Res.bnd {α β : Type} (r : Res α) (f : α → Nat → List (Nat × Nat) → Res β) : Res β :=
  match r with
  | .ok a q e => f a q e
  | .bad q => .bad q
theorem pRowsL_len {T : List Tk} {one : Nat → List (Nat × Nat) → Res Nd} : ∀ (n : Nat) {acc : List Nd} {pos : Nat} {ex : List (Nat × Nat)} {l : List Nd} {q : Nat} {e : List (Nat × Nat)}, pRowsL T one n acc pos ex = .ok l q e → l.length ≤ acc.length + n
  | 0, acc, pos, ex, l, q, e, h => by rw [pRowsL] at h; cases h
  | n + 1, acc, pos, ex, l, q, e, h => by
    rw [pRowsL] at h
    split at h
    · split at h
      · have := pRowsL_len n h
        simp only [List.length_append, List.length_cons, List.length_nil] at this
        omega
      · cases h
    · cases h; omega
theorem pRows_len {T : List Tk} {one : Nat → List (Nat × Nat) → Res Nd} {pos : Nat} {ex : List (Nat × Nat)} {l : List Nd} {q : Nat} {e : List (Nat × Nat)} (h : pRows T one pos ex = .ok l q e) : l.length ≤ T.length + 2 := by
  rw [pRows] at h
  split at h
  · have := pRowsL_len _ h
    simp only [List.length_cons, List.length_nil] at this
    omega
  · cases h
section
variable (I : World → Prop) (p : Nat) (tx : ByteArray) (T : List Tk) (k : Nat)
set_option maxRecDepth 20000 in set_option maxHeartbeats 4000000 in
theorem sim_list (wh : Nd) (l : List Nd) (hl : l.length ≤ 2000000) : Sim Tryz.prog I 89 [enc wh, .sl 6 (encs l)] [] (fun o τ => o = .ret (enc (pList wh l)) ∧ τ = []) := by
  have hle := encs_length l
  rw [enc_ag wh]
  cases l with
  | nil =>
    refine sim_body' Tryz.func89 rfl rfl rfl ?_
    repeat (any_goals (first | refine s_at ?_ | refine s_move ?_ | refine s_load ?_ | refine s_pure ?_ | refine s_nil ?_ | refine aw_seq ?_ | refine aw_seqr ?_ | refine aw_true ?_ | refine s_alloc (fun _ => ?_) | refine s_box (fun _ => ?_) | refine s_store' ?_ | (refine s_cmp (fun h => ?_) (fun h => ?_) <;> try (exfalso; simp [encs] at h; done))))
    refine aw_ret ?_; (repeat (first | refine then_ret ?_))
    refine post_of ⟨_, .ret _ _ ?_, rfl, rfl⟩ rvs pks
    exact sub_encx (.refl _)
  | cons a r =>
    have g1 : (encs (a :: r))[0]? = some (enc a) := rfl
    have g2 : (encs (a :: r))[r.length]? = some (enc ((a :: r).getLast (by simp))) := encs_get (by rw [List.getLast_eq_getElem]; simp)
    simp only [List.length_cons] at hle hl
    rw [enc_ag] at g1 g2
    refine sim_body' Tryz.func89 rfl rfl rfl ?_
    repeat (any_goals (first | refine s_at ?_ | refine s_skip ?_ | refine s_move ?_ | refine s_loade ?_ | refine s_pure ?_ | refine s_nil ?_ | refine aw_seq ?_ | refine aw_seqr ?_ | refine aw_false ?_ | refine s_alloc (fun _ => ?_) | refine s_box (fun _ => ?_) | refine s_store' ?_ | refine s_draw [13] ?_ | (refine s_cmp (fun h => ?_) (fun h => ?_) <;> try (exfalso; omega)) | refine s_elem 0 g1 ?_ | refine s_elem r.length g2 ?_ | refine s_sub ?_))
    refine aw_ret ?_; (repeat (first | refine then_ret ?_))
    refine post_of ⟨_, .ret _ _ ?_, rfl, rfl⟩ rvs pks
    exact sub_enc (.refl _)
theorem sim_list0 (b : Int) (l : List Nd) (hl : l.length ≤ 2000000) : Sim Tryz.prog I 89 [.ag (nd 8 0 ⟨#[]⟩ (.sc (.slice none 0 0)) b b), .sl 6 (encs l)] [] (fun o τ => o = .ret (enc (pList (emptyAt b) l)) ∧ τ = []) :=
  (sim_list I (emptyAt b) l hl).weak (.cons _ _ _ _ (sub_enc (.nil 6)) (Subs.refl _)) fun o σ h => ⟨o, h.1 ▸ .ret _ _ (.refl _), h⟩
/-- Names with "," between, as a list. -/
def pNames (pos : Nat) (ex : List (Nat × Nat)) : Res Nd := (pRows T (pName tx T) pos ex).bnd fun l q e => .ok (pList (emptyAt (here tx T pos)) l) q e
set_option maxRecDepth 20000 in set_option maxHeartbeats 4000000 in
theorem sim_names (hT : Fit T) (pos : Nat) (ex : List (Nat × Nat)) (hp : pos ≤ T.length) : SimP I p tx T k 78 [ptr p] enc (pNames tx T) pos ex := by
  have g1 := sim_rows I p tx T k hT 80 [ptr p] [] (pName tx T) (fun pos ex hp => sim_name I p tx T k hT pos ex hp) pos ex hp
  unfold SimP Rdr at g1 ⊢
  intro hxl
  rw [pNames]
  cases h1 : pRows T (pName tx T) pos ex with
  | bad q =>
    rw [h1] at g1
    dsimp only [Res.bnd] at g1 ⊢
    refine sim_body' Tryz.func78 rfl rfl rfl ?_
    repeat (any_goals (first | refine s_at ?_ | refine s_move ?_ | refine s_pure ?_ | refine s_nil ?_ | refine aw_seq ?_ | refine aw_seqr ?_ | refine s_alloc (fun _ => ?_) | refine c_em ?_ | (refine s_call (g1 ?_) (fun x τ' h => by cases h.1) (fun c τ' h env' => ?_); omega; obtain ⟨h1, _, _, rfl⟩ := h; cases h1)))
    (repeat (first | refine then_pan ?_)); exact post_pan ⟨_, .pan _, rfl, _, _, rfl⟩ pks
  | ok l q e =>
    rw [h1] at g1
    dsimp only [Res.bnd] at g1 ⊢
    have hl := pRows_len h1
    have g2 := sim_list0 I (here tx T pos) l (by unfold Fit at hT; omega)
    rw [enc_ag] at g2
    refine sim_body' Tryz.func78 rfl rfl rfl ?_
    repeat (any_goals (first | refine s_at ?_ | refine s_move ?_ | refine s_pure ?_ | refine s_nil ?_ | refine aw_seq ?_ | refine aw_seqr ?_ | refine s_alloc (fun _ => ?_) | refine s_store' ?_ | refine c_em ?_ | (refine s_call (g1 ?_) (fun x τ' h => ?_) (fun c τ' h => by cases h.1); omega; obtain ⟨h1, rfl, _, _⟩ := h; cases h1) | refine s_call0 g2 ?_))
    refine aw_ret ?_; (repeat (first | refine then_ret ?_)); refine post_of ⟨_, .ret _ _ ?_, rfl, rfl, by omega, by omega⟩ rvs pks
    exact sub_encx (.refl _)
end
end Go.Proofs.YtjcocblohiglbaaGreatDoor
/- The reader of specifications: gates, declarations. Conditions: none. -/
namespace Go.Proofs.YtjcocblohiglbaaGreatDoor
open Go.Dp
set_option linter.unusedVariables false
set_option linter.unusedSimpArgs false
section
variable (I : World → Prop) (p : Nat) (tx : ByteArray) (T : List Tk) (k : Nat)
def pGates (pos : Nat) (ex : List (Nat × Nat)) : Res Nd :=
  if isT (tokAt T pos) ⟨#[91]⟩ = true then
    (pRows T (pName tx T) (pos + 1) ex).bnd fun l q e =>
      if isT (tokAt T q) ⟨#[93]⟩ = true then .ok (.mk 8 0 ⟨#[]⟩ l (here tx T pos) (max (here tx T pos : Int) (behind T (q + 1)))) (q + 1) e else .bad q
  else .ok (emptyAt (here tx T pos)) pos ex
set_option maxRecDepth 20000 in set_option maxHeartbeats 4000000 in
theorem sim_gates (hT : Fit T) (pos : Nat) (ex : List (Nat × Nat)) (hp : pos ≤ T.length) : SimP I p tx T k 125 [ptr p] enc (pGates tx T) pos ex := by
  unfold SimP Rdr
  intro hxl
  rw [pGates]
  by_cases c1 : isT (tokAt T pos) ⟨#[91]⟩ = true
  · have hlt := isT_lt c1
    have g1 := sim_rows I p tx T k hT 80 [ptr p] [] (pName tx T) (fun pos ex hp => sim_name I p tx T k hT pos ex hp) (pos + 1) ex (by omega)
    unfold SimP Rdr at g1
    rw [if_pos c1]
    cases h1 : pRows T (pName tx T) (pos + 1) ex with
    | bad q =>
      rw [h1] at g1
      dsimp only [Res.bnd] at g1 ⊢
      refine sim_body' Tryz.func125 rfl rfl rfl ?_
      repeat (any_goals (first | refine s_at ?_ | refine s_skip ?_ | refine s_move ?_ | refine s_pure ?_ | refine s_nil ?_ | refine aw_seq ?_ | refine aw_seqr ?_ | refine aw_false ?_ | refine s_alloc (fun _ => ?_) | refine s_store' ?_ | refine c_nd ?_ | refine c_my ?_ | (refine s_call (g1 ?_) (fun x τ' h => by cases h.1) (fun c τ' h env' => ?_); omega; obtain ⟨h1, _, _, rfl⟩ := h; cases h1)))
      (repeat (first | refine then_pan ?_)); exact post_pan ⟨_, .pan _, rfl, _, _, rfl⟩ pks
    | ok l q e =>
      rw [h1] at g1
      dsimp only [Res.bnd] at g1 ⊢
      by_cases c2 : isT (tokAt T q) ⟨#[93]⟩ = true
      · rw [if_pos c2]; dsimp only
        have hlt2 := isT_lt c2
        refine sim_body' Tryz.func125 rfl rfl rfl ?_
        repeat (any_goals (first | refine s_at ?_ | refine s_skip ?_ | refine s_move ?_ | refine s_load ?_ | refine s_pure ?_ | refine s_nil ?_ | refine aw_seq ?_ | refine aw_seqr ?_ | refine aw_false ?_ | refine s_alloc (fun _ => ?_) | refine s_store' ?_ | refine c_nd ?_ | refine c_dn ?_ | refine c_my ?_ | refine c_uy ?_ | (refine s_call (g1 ?_) (fun x τ' h => ?_) (fun c τ' h => by cases h.1); omega; obtain ⟨h1, rfl, _, _⟩ := h; cases h1)))
        refine aw_ret ?_; (repeat (first | refine then_ret ?_)); refine post_of ⟨_, .ret _ _ ?_, rfl, rfl, by omega, by omega⟩ rvs pks
        exact sub_enc (.refl _)
      · rw [if_neg c2]; dsimp only
        rw [Bool.not_eq_true] at c2
        refine sim_body' Tryz.func125 rfl rfl rfl ?_
        repeat (any_goals (first | refine s_at ?_ | refine s_skip ?_ | refine s_move ?_ | refine s_pure ?_ | refine s_nil ?_ | refine aw_seq ?_ | refine aw_seqr ?_ | refine aw_false ?_ | refine s_alloc (fun _ => ?_) | refine s_store' ?_ | refine c_nd ?_ | refine c_my ?_ | refine c_un (fun env' => ?_) | (refine s_call (g1 ?_) (fun x τ' h => ?_) (fun c τ' h => by cases h.1); omega; obtain ⟨h1, rfl, _, _⟩ := h; cases h1)))
        (repeat (first | refine then_pan ?_)); exact post_pan ⟨_, .pan _, rfl, _, _, rfl⟩ pks
  · rw [if_neg c1]; dsimp only
    rw [Bool.not_eq_true] at c1
    refine sim_body' Tryz.func125 rfl rfl rfl ?_
    repeat (any_goals (first | refine s_at ?_ | refine s_move ?_ | refine s_pure ?_ | refine s_nil ?_ | refine aw_seq ?_ | refine aw_seqr ?_ | refine aw_true ?_ | refine s_alloc (fun _ => ?_) | refine s_store' ?_ | refine c_nd ?_ | refine c_em ?_ | refine c_mn ?_))
    refine aw_ret ?_; (repeat (first | refine then_ret ?_)); refine post_of ⟨_, .ret _ _ ?_, rfl, rfl, by omega, by omega⟩ rvs pks
    exact sub_enc (.nil 6)
end
end Go.Proofs.YtjcocblohiglbaaGreatDoor
/- The reader of specifications: names that share a sort. Conditions: none. -/
namespace Go.Proofs.YtjcocblohiglbaaGreatDoor
open Go.Dp
set_option linter.unusedVariables false
set_option linter.unusedSimpArgs false
def share (kind : Int) (so x : Nd) : Nd := .mk kind x.n x.s [so] x.b x.e
section
variable (I : World → Prop) (p : Nat) (tx : ByteArray) (T : List Tk) (k : Nat)
def pShared (kind : Int) (pos : Nat) (ex : List (Nat × Nat)) : Res (List Nd) :=
  (pRows T (pName tx T) pos ex).bnd fun l q e =>
    if isT (tokAt T q) ⟨#[58]⟩ = true then (pName tx T (q + 1) e).bnd fun so q e => .ok (l.map (share kind so)) q e else .bad q
/-- A function of the reader that gives nodes that may be appended to. -/
def SimT (f : FuncId) (args : List AV) (m : Nat → List (Nat × Nat) → Res (List Nd)) (pos : Nat) (ex : List (Nat × Nat)) : Prop :=
  ex.length ≤ pos → Sim Tryz.prog I f args (Rdr p tx T k pos ex) (fun o τ => match m pos ex with
    | .ok l q e => (∃ j, o = .ret (.os j 6 (encs l)) ∧ τ = .tok j 27 6 (encs l).length :: Rdr p tx T k q e) ∧ pos ≤ q ∧ q ≤ T.length ∧ e.length ≤ q
    | .bad q => o = .pan (stopV 20 (here tx T q)) ∧ ∃ pos' ex', τ = Rdr p tx T k pos' ex')
set_option maxRecDepth 20000 in set_option maxHeartbeats 4000000 in
theorem sim_shared (hT : Fit T) (kind : Int) (pos : Nat) (ex : List (Nat × Nat)) (hp : pos ≤ T.length) : SimT I p tx T k 63 [ptr p, i64 kind] (pShared tx T kind) pos ex := by
  have g1 := sim_rows I p tx T k hT 80 [ptr p] [] (pName tx T) (fun pos ex hp => sim_name I p tx T k hT pos ex hp) pos ex hp
  unfold SimP Rdr at g1
  unfold SimT Rdr
  intro hxl
  rw [pShared]
  cases h1 : pRows T (pName tx T) pos ex with
  | bad q =>
    rw [h1] at g1
    dsimp only [Res.bnd] at g1 ⊢
    refine sim_body' Tryz.func63 rfl rfl rfl ?_
    repeat (any_goals (first | refine s_at ?_ | refine s_move ?_ | refine s_assign ?_ | refine s_pure ?_ | refine s_nil ?_ | refine aw_seq ?_ | refine aw_seqr ?_ | (refine s_call (g1 ?_) (fun x τ' h => by cases h.1) (fun c τ' h env' => ?_); omega; obtain ⟨h1, _, _, rfl⟩ := h; cases h1)))
    (repeat (first | refine then_pan ?_)); exact post_pan ⟨_, .pan _, rfl, _, _, rfl⟩ pks
  | ok l q e =>
    have hl := pRows_len h1
    have hll := encs_length l
    have hT' : T.length ≤ 1000000 := hT
    rw [h1] at g1
    dsimp only [Res.bnd] at g1 ⊢
    by_cases c1 : isT (tokAt T q) ⟨#[58]⟩ = true
    · rw [if_pos c1]
      have hlt := isT_lt c1
      have g2 := sim_name I p tx T k hT (q + 1) e (by omega)
      unfold SimP Rdr at g2
      cases h2 : pName tx T (q + 1) e with
      | bad q2 =>
        rw [h2] at g2
        dsimp only [Res.bnd] at g2 ⊢
        refine sim_body' Tryz.func63 rfl rfl rfl ?_
        repeat (any_goals (first | refine s_at ?_ | refine s_move ?_ | refine s_assign ?_ | refine s_pure ?_ | refine s_nil ?_ | refine aw_seq ?_ | refine aw_seqr ?_ | refine c_uy ?_ | (refine s_call (g1 ?_) (fun x τ' h => ?_) (fun c τ' h => by cases h.1); omega; obtain ⟨h1, rfl, _, _⟩ := h; cases h1) | (refine s_call (g2 ?_) (fun x τ' h => by cases h.1) (fun c τ' h env' => ?_); omega; obtain ⟨h1, _, _, rfl⟩ := h; cases h1)))
        (repeat (first | refine then_pan ?_)); exact post_pan ⟨_, .pan _, rfl, _, _, rfl⟩ pks
      | ok so q2 e2 =>
        rw [h2] at g2
        dsimp only [Res.bnd] at g2 ⊢
        rw [enc_ag] at g2
        refine sim_body' Tryz.func63 rfl rfl rfl ?_
        repeat (any_goals (first | refine s_at ?_ | refine s_move ?_ | refine s_assign ?_ | refine s_pure ?_ | refine s_nil ?_ | refine aw_seq ?_ | refine aw_seqr ?_ | refine aw_block ?_ | refine s_alloc (fun _ => ?_) | refine s_store' ?_ | refine c_uy ?_ | (refine s_call (g1 ?_) (fun x τ' h => ?_) (fun c τ' h => by cases h.1); omega; obtain ⟨h1, rfl, _, _⟩ := h; cases h1) | (refine s_call (g2 ?_) (fun x τ' h => ?_) (fun c τ' h => by cases h.1); omega; obtain ⟨h1, rfl, _, _⟩ := h; cases h1)))
        refine aw_slottok 7 27 6 (fun k2 => ?_)
        rename_i b6
        refine aw_loop (fun i : Nat => [(1, i64 kind), (6, ptr b6), (7, .os k2 6 (encs ((l.take i).map (share kind so)))), (18, .sl 6 (encs l)), (19, i64 ((encs l).length : Int)), (20, i64 (i : Int))])
          (fun i => [.tok k2 27 6 (encs ((l.take i).map (share kind so))).length, .box b6 [i64 so.kind, i64 so.n, str so.s, AV.sl 6 (encs so.l), i64 so.b, i64 so.e] 27, rd p tx T q2 (.os k 2 (e2.map eext)), .tok k 89 2 (e2.map eext).length])
          (fun i => i ≤ l.length) (fun i => l.length - i) 0 (Nat.zero_le _) els _ (Picks.perm pks) ?_
        intro i i1
        have hle := encs_length ((l.take i).map (share kind so))
        rw [List.length_map, List.length_take] at hle
        try dsimp only at i1 ⊢
        by_cases hi : i < l.length
        · obtain ⟨x, hx⟩ : ∃ x, l[i]? = some x := ⟨l[i], List.getElem?_eq_getElem hi⟩
          have g3 := encs_get hx
          rw [enc_ag] at g3
          repeat (any_goals (first | refine s_at ?_ | refine s_skip ?_ | refine s_move ?_ | refine s_assign ?_ | refine s_load ?_ | refine s_loade ?_ | refine s_loadd ?_ | refine s_pure ?_ | refine s_nil ?_ | refine aw_seq ?_ | refine aw_seqr ?_ | refine aw_block ?_ | refine aw_true ?_ | refine s_alloc (fun _ => ?_) | refine s_store' ?_ | (refine s_cmp (fun h => ?_) (fun h => ?_) <;> try (exfalso; omega)) | refine s_elem i g3 ?_ | refine s_draw [4, 6] ?_ | refine s_litq ?_ | refine s_append ?_ | refine s_add ?_))
          have e4 : encs ((l.take i).map (share kind so)) ++ [AV.ag [i64 kind, i64 x.n, str x.s, .sl 6 [AV.ag [i64 so.kind, i64 so.n, str so.s, AV.sl 6 (encs so.l), i64 so.b, i64 so.e]], i64 x.b, i64 x.e]] = encs ((l.take (i + 1)).map (share kind so)) := by
            rw [List.take_add_one, hx, List.map_append, encs_append]
            refine congrArg _ ?_
            show [_] = [enc (share kind so x)]
            rw [share, enc, encs, encs, enc_ag so]
          rw [e4]
          refine d_end fun env' he => then_nor (rnd_end (i + 1) pks (by omega) (by omega) (EnvLe.of_eq he (EnvLe.of_list fun y hy => ?_)))
          simp only [List.mem_cons, List.not_mem_nil, or_false] at hy
          rcases hy with rfl | rfl | rfl | rfl | rfl | rfl
          · rfl
          · rfl
          · rfl
          · rfl
          · rfl
          · rfl
        · have hi' : i = l.length := by omega
          subst hi'
          rw [List.take_length] at hle ⊢
          repeat (any_goals (first | refine s_at ?_ | refine s_nil ?_ | refine aw_seq ?_ | refine aw_seqr ?_ | refine aw_false ?_ | (refine s_cmp (fun h => ?_) (fun h => ?_) <;> try (exfalso; omega))))
          refine aw_exit ?_; (repeat refine then_exit ?_); refine inb_exit ?_; refine then_nor ?_
          repeat (any_goals (first | refine s_at ?_ | refine s_move ?_ | refine s_assign ?_ | refine s_nil ?_ | refine aw_seq ?_ | refine aw_seqr ?_))
          refine aw_ret ?_; (repeat (first | refine then_ret ?_))
          exact post_of ⟨_, .ret _ _ (.refl _), ⟨k2, rfl, rfl⟩, by omega, by omega⟩ rvs pks
    · rw [if_neg c1]; dsimp only
      rw [Bool.not_eq_true] at c1
      refine sim_body' Tryz.func63 rfl rfl rfl ?_
      repeat (any_goals (first | refine s_at ?_ | refine s_move ?_ | refine s_assign ?_ | refine s_pure ?_ | refine s_nil ?_ | refine aw_seq ?_ | refine aw_seqr ?_ | refine c_un (fun env' => ?_) | (refine s_call (g1 ?_) (fun x τ' h => ?_) (fun c τ' h => by cases h.1); omega; obtain ⟨h1, rfl, _, _⟩ := h; cases h1)))
      (repeat (first | refine then_pan ?_)); exact post_pan ⟨_, .pan _, rfl, _, _, rfl⟩ pks
end
end Go.Proofs.YtjcocblohiglbaaGreatDoor
/- The reader of specifications: declarations. Conditions: none. -/
namespace Go.Proofs.YtjcocblohiglbaaGreatDoor
open Go.Dp
set_option linter.unusedVariables false
set_option linter.unusedSimpArgs false
section
variable (I : World → Prop) (p : Nat) (tx : ByteArray) (T : List Tk) (k : Nat)
def pDeclsL : Nat → List Nd → Nat → List (Nat × Nat) → Res (List Nd)
  | 0, _, pos, _ => .bad pos
  | n + 1, acc, pos, ex =>
    if isT (tokAt T pos) ⟨#[44]⟩ = true then (pShared tx T 9 (pos + 1) ex).bnd fun l q e => pDeclsL n (acc ++ l) q e
    else .ok acc pos ex
def pDecls (pos : Nat) (ex : List (Nat × Nat)) : Res Nd :=
  (pShared tx T 9 pos ex).bnd fun l q e => (pDeclsL tx T (T.length + 1) l q e).bnd fun l q e => .ok (.mk 8 0 ⟨#[]⟩ l (here tx T pos) (max (here tx T pos : Int) (behind T q))) q e
theorem pRowsL_adv {T : List Tk} {one : Nat → List (Nat × Nat) → Res Nd} (hone : ∀ pos ex a q e, one pos ex = .ok a q e → pos + 1 ≤ q) : ∀ (n : Nat) {acc : List Nd} {pos : Nat} {ex : List (Nat × Nat)} {l : List Nd} {q : Nat} {e : List (Nat × Nat)}, pRowsL T one n acc pos ex = .ok l q e → l.length + pos ≤ acc.length + q
  | 0, acc, pos, ex, l, q, e, h => by rw [pRowsL] at h; cases h
  | n + 1, acc, pos, ex, l, q, e, h => by
    rw [pRowsL] at h
    split at h
    · split at h
      · rename_i a q' e' h'
        have h1 := hone _ _ _ _ _ h'
        have := pRowsL_adv hone n h
        simp only [List.length_append, List.length_cons, List.length_nil] at this
        omega
      · cases h
    · cases h; omega
theorem pRows_adv {T : List Tk} {one : Nat → List (Nat × Nat) → Res Nd} (hone : ∀ pos ex a q e, one pos ex = .ok a q e → pos + 1 ≤ q) {pos : Nat} {ex : List (Nat × Nat)} {l : List Nd} {q : Nat} {e : List (Nat × Nat)} (h : pRows T one pos ex = .ok l q e) : l.length + pos ≤ q := by
  rw [pRows] at h
  split at h
  · rename_i a q' e' h'
    have h1 := hone _ _ _ _ _ h'
    have := pRowsL_adv hone _ h
    simp only [List.length_cons, List.length_nil] at this
    omega
  · cases h
theorem pName_adv (pos : Nat) (ex : List (Nat × Nat)) (a : Nd) (q : Nat) (e : List (Nat × Nat)) (h : pName tx T pos ex = .ok a q e) : pos + 1 ≤ q := by
  rw [pName] at h
  split at h
  · cases h; omega
  · cases h
theorem pShared_adv {kind : Int} {pos : Nat} {ex : List (Nat × Nat)} {l : List Nd} {q : Nat} {e : List (Nat × Nat)} (h : pShared tx T kind pos ex = .ok l q e) : l.length + pos ≤ q := by
  rw [pShared] at h
  cases h1 : pRows T (pName tx T) pos ex with
  | bad q => rw [h1] at h; cases h
  | ok l' q' e' =>
    rw [h1] at h
    dsimp only [Res.bnd] at h
    split at h
    · cases h2 : pName tx T (q' + 1) e' with
      | bad q => rw [h2] at h; cases h
      | ok so q2 e2 =>
        rw [h2] at h
        cases h
        rw [List.length_map]
        have := pRows_adv (pName_adv tx T) h1
        have := pName_adv tx T _ _ _ _ _ h2
        omega
    · cases h
set_option maxRecDepth 20000 in set_option maxHeartbeats 4000000 in
theorem sim_decls (hT : Fit T) (pos : Nat) (ex : List (Nat × Nat)) (hp : pos ≤ T.length) : SimP I p tx T k 40 [ptr p] enc (pDecls tx T) pos ex := by
  have g1 := sim_shared I p tx T k hT 9 pos ex hp
  unfold SimT Rdr at g1
  unfold SimP Rdr
  intro hxl
  rw [pDecls]
  cases h1 : pShared tx T 9 pos ex with
  | bad q =>
    rw [h1] at g1
    dsimp only [Res.bnd] at g1 ⊢
    refine sim_body' Tryz.func40 rfl rfl rfl ?_
    repeat (any_goals (first | refine s_at ?_ | refine s_move ?_ | refine s_nil ?_ | refine aw_seq ?_ | refine aw_seqr ?_ | refine s_alloc (fun _ => ?_) | refine s_store' ?_ | refine c_nd ?_ | (refine s_call (g1 ?_) (fun x τ' h => by cases h.1) (fun c τ' h env' => ?_); omega; obtain ⟨h1, _, _, rfl⟩ := h; cases h1)))
    (repeat (first | refine then_pan ?_)); exact post_pan ⟨_, .pan _, rfl, _, _, rfl⟩ pks
  | ok l q e =>
    have hl := pShared_adv tx T h1
    have hT' : T.length ≤ 1000000 := hT
    rw [h1] at g1
    dsimp only [Res.bnd] at g1 ⊢
    generalize hres : pDeclsL tx T (T.length + 1) l q e = res
    refine sim_body' Tryz.func40 rfl rfl rfl ?_
    repeat (any_goals (first | refine s_at ?_ | refine s_move ?_ | refine s_pure ?_ | refine s_nil ?_ | refine aw_seq ?_ | refine aw_seqr ?_ | refine aw_block ?_ | refine s_alloc (fun _ => ?_) | refine s_store' ?_ | refine c_nd ?_ | (refine s_call (g1 ?_) (fun x τ' h => ?_) (fun c τ' h => by obtain ⟨⟨_, h0, _⟩, _⟩ := h; cases h0); omega; obtain ⟨⟨j1, h1, rfl⟩, _, _⟩ := h; cases h1)))
    rename_i b2 b3 q1 q2
    refine aw_loop (fun _ : List Nd × Nat × Nat × List (Nat × Nat) × Nat => [(0, ptr p), (2, ptr b2), (3, ptr b3)])
      (fun s => [.box b3 [i64 8, i64 0, str ⟨#[]⟩, .os s.2.2.2.2 6 (encs s.1), i64 (here tx T pos : Int), i64 0] 27, .tok s.2.2.2.2 27 6 (encs s.1).length, rd p tx T s.2.2.1 (.os k 2 (s.2.2.2.1.map eext)), .tok k 89 2 (s.2.2.2.1.map eext).length, .box b2 ty27.zl 27])
      (fun s => pDeclsL tx T s.2.1 s.1 s.2.2.1 s.2.2.2.1 = res ∧ T.length < s.2.1 + s.2.2.1 ∧ s.2.2.1 ≤ T.length ∧ pos ≤ s.2.2.1 ∧ s.1.length ≤ s.2.2.1 ∧ s.2.2.2.1.length ≤ s.2.2.1) (fun s => T.length - s.2.2.1) (l, T.length + 1, q, e, j1)
      ⟨hres, by dsimp only; omega, q2.1, q1, by dsimp only; omega, q2.2⟩ els _ (Picks.perm pks) ?_
    rintro ⟨acc, n, pos1, ex1, j⟩ ⟨i1, i2, i3, i4, i5, i6⟩
    dsimp only at i1 i2 i3 i4 i5 i6 ⊢
    have hle := encs_length acc
    obtain ⟨n, rfl⟩ : ∃ m, n = m + 1 := ⟨n - 1, by omega⟩
    rw [pDeclsL] at i1
    by_cases c1 : isT (tokAt T pos1) ⟨#[44]⟩ = true
    · rw [if_pos c1] at i1
      have hlt := isT_lt c1
      have g2 := sim_shared I p tx T k hT 9 (pos1 + 1) ex1 (by omega)
      unfold SimT Rdr at g2
      cases h2 : pShared tx T 9 (pos1 + 1) ex1 with
      | bad q3 =>
        rw [h2] at g2 i1
        dsimp only [Res.bnd] at g2 i1
        subst i1
        repeat (any_goals (first | refine s_at ?_ | refine s_skip ?_ | refine s_move ?_ | refine s_loadd ?_ | refine s_pure ?_ | refine s_nil ?_ | refine aw_seq ?_ | refine aw_seqr ?_ | refine aw_block ?_ | refine aw_true ?_ | refine c_my ?_ | refine s_draw [3, 4, 6] ?_ | (refine s_call (g2 ?_) (fun x τ' h => by cases h.1) (fun c τ' h env' => ?_); omega; obtain ⟨h1, _, _, rfl⟩ := h; cases h1)))
        (repeat (first | refine then_pan ?_ | refine inb_pan ?_)); exact post_pan ⟨_, .pan _, rfl, _, _, rfl⟩ pks
      | ok l2 q3 e3 =>
        have hl2 := pShared_adv tx T h2
        have hle2 := encs_length l2
        rw [h2] at g2 i1
        dsimp only [Res.bnd] at g2 i1
        repeat (any_goals (first | refine s_at ?_ | refine s_skip ?_ | refine s_move ?_ | refine s_loadd ?_ | refine s_pure ?_ | refine s_nil ?_ | refine aw_seq ?_ | refine aw_seqr ?_ | refine aw_block ?_ | refine aw_true ?_ | refine s_store' ?_ | refine c_my ?_ | refine s_draw [3, 4, 6] ?_ | (refine s_call (g2 ?_) (fun x τ' h => ?_) (fun c τ' h => by obtain ⟨⟨_, h0, _⟩, _⟩ := h; cases h0); omega; obtain ⟨⟨j2, h1, rfl⟩, _, _⟩ := h; cases h1) | refine s_appendd ?_))
        rw [← encs_append]
        refine d_end fun env' he => inb_nor (then_nor ?_)
        refine ⟨(acc ++ l2, n, q3, e3, j), ?dr, ⟨i1, ?_, ?_, ?_, ?_, ?_⟩, ?_, EnvLe.of_eq he ?_, ?perm⟩
        case perm => exact Picks.perm pks
        · dsimp only; omega
        · dsimp only; omega
        · dsimp only; omega
        · dsimp only; rw [List.length_append]; omega
        · dsimp only; omega
        · dsimp only; omega
        · exact els
    · rw [if_neg c1] at i1
      subst i1
      rw [Bool.not_eq_true] at c1
      repeat (any_goals (first | refine s_at ?_ | refine s_move ?_ | refine s_nil ?_ | refine aw_seq ?_ | refine aw_seqr ?_ | refine aw_false ?_ | refine c_mn ?_))
      refine aw_exit ?_; (repeat refine then_exit ?_); refine inb_exit ?_; refine then_nor ?_
      repeat (any_goals (first | refine s_at ?_ | refine s_move ?_ | refine s_load ?_ | refine s_nil ?_ | refine aw_seq ?_ | refine aw_seqr ?_ | refine s_store' ?_ | refine c_dn ?_))
      refine aw_ret ?_; (repeat (first | refine then_ret ?_)); refine post_of ⟨_, .ret _ _ ?_, rfl, rfl, by omega, by omega⟩ rvs pks
      exact sub_enc (.os _ _ _ _ (Subs.refl _))
end
end Go.Proofs.YtjcocblohiglbaaGreatDoor
/- The reader of specifications: expressions, which are read later. Conditions: none. -/
namespace Go.Proofs.YtjcocblohiglbaaGreatDoor
open Go.Dp
set_option linter.unusedVariables false
set_option linter.unusedSimpArgs false
def partT (t : Tk) : Bool := decide (t.kind = 1) || decide (t.kind = 4)
def opensT (t : Tk) : Bool := partT t || decide (t.kind = 3) || isT t ⟨#[111, 102]⟩ || isT t ⟨#[40]⟩
set_option maxRecDepth 20000 in set_option maxHeartbeats 4000000 in
theorem sim_isPart (I : World → Prop) (t : Tk) : Sim Tryz.prog I 47 [etok t] [] (fun o τ => o = .ret (boo (partT t)) ∧ τ = []) := by
  refine sim_body Tryz.func47 rfl rfl rfl ?_
  repeat (any_goals (first | refine s_at ?_ | refine s_off ?_ | refine s_move ?_ | refine s_assign ?_ | refine s_load ?_ | refine s_pick1 ?_ | refine s_pick0 ?_ | refine s_pure ?_ | refine s_nil ?_ | refine aw_seq ?_ | refine aw_seqr ?_ | refine s_box (fun _ => ?_) | refine s_cmp (fun h => ?_) (fun h => ?_)))
  all_goals
    refine aw_ret ?_; (repeat (first | refine then_ret ?_))
    refine (post_of ⟨?_, rfl⟩ rvs pks)
    simp [partT, oneOf, *]
section
variable (I : World → Prop) (p : Nat) (tx : ByteArray) (T : List Tk) (k : Nat)
set_option maxRecDepth 20000 in set_option maxHeartbeats 4000000 in
theorem sim_opens (hT : Fit T) (pos : Nat) (ex : AV) (hp : pos ≤ T.length) : Sim Tryz.prog I 43 [ptr p] [rd p tx T pos ex] (fun o τ => o = .ret (boo (opensT (tokAt T pos))) ∧ τ = [rd p tx T pos ex]) := by
  have g1 := sim_isPart I (tokAt T pos)
  have g2 := sim_isT I (tokAt T pos) ⟨#[111, 102]⟩
  have g3 := sim_isT I (tokAt T pos) ⟨#[40]⟩
  cases c1 : partT (tokAt T pos) <;> by_cases c2 : (tokAt T pos).kind = 3 <;> cases c3 : isT (tokAt T pos) ⟨#[111, 102]⟩ <;> cases c4 : isT (tokAt T pos) ⟨#[40]⟩
  all_goals
    rw [c1] at g1
    rw [c3] at g2
    rw [c4] at g3
    refine sim_body Tryz.func43 rfl rfl rfl ?_
    repeat (any_goals (first | refine s_at ?_ | refine s_off ?_ | refine s_move ?_ | refine s_assign ?_ | refine s_load ?_ | refine s_pick1 ?_ | refine s_pick0 ?_ | refine s_pure ?_ | refine s_nil ?_ | refine aw_seq ?_ | refine aw_seqr ?_ | refine s_alloc (fun _ => ?_) | refine s_store' ?_ | refine c_nx ?_ | refine s_call0 g1 ?_ | refine s_call0 g2 ?_ | refine s_call0 g3 ?_ | (refine s_cmp (fun h => ?_) (fun h => ?_) <;> try (exfalso; omega))))
    refine aw_ret ?_; (repeat (first | refine then_ret ?_))
    refine (post_of ⟨?_, rfl⟩ rvs pks)
    simp [opensT, oneOf, c1, c2, c3, c4]
end
end Go.Proofs.YtjcocblohiglbaaGreatDoor
