/- The reader of expressions: operations, and its smallest functions. Conditions: none. -/
import Derived.Test.YtjcocblohiglbaaGreatDoorA1
import Derived.Test.YtjcocblohiglbaaGreatDoorA4
namespace Go.Proofs.YtjcocblohiglbaaGreatDoor
open Go.Dp
set_option linter.unusedVariables false
set_option linter.unusedSimpArgs false
/-- An operation, as it is written. -/
structure Mx where
  parts : List ByteArray
  left : Bool
  right : Bool
  prio : Int
  side : Int
def emixL (m : Mx) : List AV := [.sl 1 (m.parts.map fun s => str s), boo m.left, boo m.right, i64 m.prio, i64 m.side]
def emix (m : Mx) : AV := .ag (emixL m)
def kv (A : List (ByteArray × Mx)) : List (Value × AV) := A.map fun p => (.string p.1, emix p.2)
def strength (m : Mx) : Int := if m.left = false ∧ m.right = false then 10 else m.prio
def rightSlot (m : Mx) : Int := if m.side = 2 ∨ m.left = false then m.prio else m.prio + 1
/-- An operation is in bounds. -/
structure MxOk (m : Mx) : Prop where
  ne : m.parts ≠ []
  len : m.parts.length ≤ 1000
  prio : -1000 ≤ m.prio ∧ m.prio ≤ 1000
  size : (m.parts.foldl (fun n s => n + s.size + 1) 0) ≤ 1000000000
set_option maxRecDepth 20000 in set_option maxHeartbeats 4000000 in
theorem sim_strength (I : World → Prop) (m : Mx) : Sim Tryz.prog I 100 [emix m] [] (fun o τ => o = .ret (i64 (strength m)) ∧ τ = []) := by
  obtain ⟨ps, l, r, pr, sd⟩ := m
  unfold emix emixL
  dsimp only
  cases l <;> cases r <;>
  · refine sim_body Tryz.func100 rfl rfl rfl ?_
    repeat (any_goals (first | refine s_at ?_ | refine s_skip ?_ | refine s_off ?_ | refine s_move ?_ | refine s_assign ?_ | refine s_load ?_ | refine s_pick1 ?_ | refine s_pick0 ?_ | refine s_pure ?_ | refine s_nil ?_ | refine aw_seq ?_ | refine aw_seqr ?_ | refine aw_true ?_ | refine aw_false ?_ | refine s_box (fun _ => ?_)))
    refine aw_ret ?_; (repeat (first | refine then_ret ?_))
    exact (post_of ⟨rfl, rfl⟩ rvs pks)
set_option maxRecDepth 20000 in set_option maxHeartbeats 4000000 in
theorem sim_rightSlot (I : World → Prop) (m : Mx) (hm : MxOk m) : Sim Tryz.prog I 101 [emix m] [] (fun o τ => o = .ret (i64 (rightSlot m)) ∧ τ = []) := by
  obtain ⟨ps, l, r, pr, sd⟩ := m
  have h1 := hm.prio
  dsimp only at h1
  unfold emix emixL rightSlot
  dsimp only
  by_cases hs : sd = 2
  · rw [if_pos (.inl hs)]
    refine sim_body Tryz.func101 rfl rfl rfl ?_
    repeat (any_goals (first | refine s_at ?_ | refine s_off ?_ | refine s_move ?_ | refine s_assign ?_ | refine s_load ?_ | refine s_pick1 ?_ | refine s_pure ?_ | refine s_nil ?_ | refine aw_seq ?_ | refine aw_seqr ?_ | refine aw_true ?_ | refine s_box (fun _ => ?_) | (refine s_cmp (fun h => ?_) (fun h => ?_) <;> try (exfalso; omega))))
    refine aw_ret ?_; (repeat (first | refine then_ret ?_))
    exact (post_of ⟨rfl, rfl⟩ rvs pks)
  · cases l with
    | true =>
      rw [if_neg (by simp [hs])]
      refine sim_body Tryz.func101 rfl rfl rfl ?_
      repeat (any_goals (first | refine s_at ?_ | refine s_skip ?_ | refine s_move ?_ | refine s_assign ?_ | refine s_load ?_ | refine s_pick0 ?_ | refine s_pure ?_ | refine s_nil ?_ | refine aw_seq ?_ | refine aw_seqr ?_ | refine aw_false ?_ | refine s_box (fun _ => ?_) | (refine s_cmp (fun h => ?_) (fun h => ?_) <;> try (exfalso; omega)) | refine s_add ?_))
      refine aw_ret ?_; (repeat (first | refine then_ret ?_))
      exact (post_of ⟨rfl, rfl⟩ rvs pks)
    | false =>
      rw [if_pos (.inr rfl)]
      refine sim_body Tryz.func101 rfl rfl rfl ?_
      repeat (any_goals (first | refine s_at ?_ | refine s_move ?_ | refine s_assign ?_ | refine s_load ?_ | refine s_pick0 ?_ | refine s_pure ?_ | refine s_nil ?_ | refine aw_seq ?_ | refine aw_seqr ?_ | refine aw_true ?_ | refine s_box (fun _ => ?_) | (refine s_cmp (fun h => ?_) (fun h => ?_) <;> try (exfalso; omega))))
      refine aw_ret ?_; (repeat (first | refine then_ret ?_))
      exact (post_of ⟨rfl, rfl⟩ rvs pks)
/-- Parts, with "_" between. -/
def joinB (sep : ByteArray) : List ByteArray → ByteArray
  | [] => ⟨#[]⟩
  | [a] => a
  | a :: b :: l => a ++ sep ++ joinB sep (b :: l)
def JoinOk (I : World → Prop) : Prop := ∀ (l : List ByteArray) (sep : ByteArray), l.length ≤ 1000 → sep.size ≤ 10 → (l.foldl (fun n s => n + s.size + 1) 0) ≤ 1000000000 → Sim Tryz.prog I 121 [.sl 1 (l.map fun s => str s), str sep] [] (fun o τ => o = .ret (str (joinB sep l)) ∧ τ = [])
theorem join_size : ∀ (l : List ByteArray) (n : Nat), n + (joinB ⟨#[95]⟩ l).size ≤ l.foldl (fun n s => n + s.size + 1) n
  | [], n => Nat.le_refl n
  | [a], n => by simp [joinB]
  | a :: b :: l, n => by
    rw [List.foldl_cons]
    have := join_size (b :: l) (n + a.size + 1)
    rw [joinB, ByteArray.size_append, ByteArray.size_append]
    have e : (⟨#[95]⟩ : ByteArray).size = 1 := rfl
    rw [e]
    omega
/-- The name of an operation. -/
def mixName (m : Mx) : ByteArray := (bif m.right then (bif m.left then ⟨#[95]⟩ ++ joinB ⟨#[95]⟩ m.parts else joinB ⟨#[95]⟩ m.parts) ++ ⟨#[95]⟩ else (bif m.left then ⟨#[95]⟩ ++ joinB ⟨#[95]⟩ m.parts else joinB ⟨#[95]⟩ m.parts))
set_option maxRecDepth 20000 in set_option maxHeartbeats 4000000 in
theorem sim_mixName (I : World → Prop) (hj : JoinOk I) (m : Mx) (hm : MxOk m) : Sim Tryz.prog I 102 [emix m] [] (fun o τ => o = .ret (str (mixName m)) ∧ τ = []) := by
  obtain ⟨ps, l, r, pr, sd⟩ := m
  have h1 := hm.size
  have h2 := hm.len
  dsimp only at h1 h2
  have g1 := hj ps ⟨#[95]⟩ h2 (by decide) h1
  have h3 := join_size ps 0
  have e1 : (⟨#[95]⟩ : ByteArray).size = 1 := rfl
  have e2 : ((⟨#[95]⟩ : ByteArray) ++ joinB ⟨#[95]⟩ ps).size = 1 + (joinB ⟨#[95]⟩ ps).size := by rw [ByteArray.size_append, e1]
  unfold emix emixL
  dsimp only
  cases l <;> cases r <;>
  · refine sim_body Tryz.func102 rfl rfl rfl ?_
    repeat (any_goals (first | refine s_at ?_ | refine s_skip ?_ | refine s_move ?_ | refine s_assign ?_ | refine s_load ?_ | refine s_pure ?_ | refine s_nil ?_ | refine aw_seq ?_ | refine aw_seqr ?_ | refine aw_true ?_ | refine aw_false ?_ | refine s_box (fun _ => ?_) | refine s_call0 g1 ?_ | (refine s_concat ?_ ?_; omega)))
    refine aw_ret ?_; (repeat (first | refine then_ret ?_))
    exact (post_of ⟨rfl, rfl⟩ rvs pks)
/-- The next token of the expression. -/
def nxt (T : List Tk) (last pos : Nat) : Tk := if pos < last then tokAt T pos else Tk.no
abbrev slv (p bA bF : Nat) (tx : ByteArray) (T : List Tk) (last pos : Nat) : Rs := .box p [.sc (.map (some bA)), .sc (.map (some bF)), .sl 5 (T.map etok), str tx, i64 (pos : Int), i64 (last : Int)] 129
section
variable (I : World → Prop) (p bA bF : Nat) (tx : ByteArray) (T : List Tk) (last pos : Nat)
set_option maxRecDepth 20000 in set_option maxHeartbeats 4000000 in
theorem snext (hT : Fit T) (hla : last ≤ T.length) (hp : pos ≤ last) : Sim Tryz.prog I 86 [ptr p] [slv p bA bF tx T last pos] (fun o τ => o = .ret (etok (nxt T last pos)) ∧ τ = [slv p bA bF tx T last pos]) := by
  have hl : (T.map etok).length = T.length := List.length_map ..
  refine sim_body Tryz.func86 rfl rfl rfl ?_
  by_cases hlt : pos < last
  · have h1 : T[pos]? = some T[pos] := List.getElem?_eq_getElem (by omega)
    have h2 : (T.map etok)[pos]? = some (etok T[pos]) := by rw [List.getElem?_map, h1]; rfl
    repeat (any_goals (first | refine s_at ?_ | refine s_move ?_ | refine s_loade ?_ | refine s_loadd ?_ | refine s_pure ?_ | refine s_nil ?_ | refine aw_seq ?_ | refine aw_seqr ?_ | refine aw_true ?_ | refine s_alloc (fun _ => ?_) | refine s_store' ?_ | refine s_drawn 9 [] ?_ | refine s_drawn 11 [10] ?_ | (refine s_cmp (fun h => ?_) (fun h => ?_) <;> try (exfalso; omega)) | refine s_elem pos h2 ?_))
    refine aw_ret ?_; (repeat (first | refine then_ret ?_))
    refine (post_of ⟨?_, rfl⟩ rvs pks)
    rw [nxt, if_pos hlt, tokAt, List.getD_eq_getElem?_getD, h1]; rfl
  · repeat (any_goals (first | refine s_at ?_ | refine s_skip ?_ | refine s_move ?_ | refine s_loadd ?_ | refine s_pure ?_ | refine s_nil ?_ | refine aw_seq ?_ | refine aw_seqr ?_ | refine aw_false ?_ | refine s_alloc (fun _ => ?_) | refine s_store' ?_ | refine s_drawn 9 [] ?_ | (refine s_cmp (fun h => ?_) (fun h => ?_) <;> try (exfalso; omega))))
    refine aw_ret ?_; (repeat (first | refine then_ret ?_))
    refine (post_of ⟨?_, rfl⟩ rvs pks)
    rw [nxt, if_neg hlt]; rfl
set_option maxRecDepth 20000 in set_option maxHeartbeats 4000000 in
theorem swrong (hT : Fit T) (hla : last ≤ T.length) (hp : pos ≤ last) : Sim Tryz.prog I 75 [ptr p] [slv p bA bF tx T last pos] (fun o τ => o = .pan (stopV 22 (here tx T pos)) ∧ τ = [slv p bA bF tx T last pos]) := by
  have hl : (T.map etok).length = T.length := List.length_map ..
  refine sim_body Tryz.func75 rfl rfl rfl ?_
  by_cases hlt : pos < T.length
  · have h1 : T[pos]? = some T[pos] := List.getElem?_eq_getElem (by omega)
    have h2 : (T.map etok)[pos]? = some (etok T[pos]) := by rw [List.getElem?_map, h1]; rfl
    repeat (any_goals (first | refine s_at ?_ | refine s_move ?_ | refine s_assign ?_ | refine s_load ?_ | refine s_loade ?_ | refine s_loadd ?_ | refine s_pure ?_ | refine s_nil ?_ | refine aw_seq ?_ | refine aw_seqr ?_ | refine aw_true ?_ | refine s_drawn 10 [] ?_ | refine s_drawn 12 [] ?_ | (refine s_cmp (fun h => ?_) (fun h => ?_) <;> try (exfalso; omega)) | refine s_elem pos h2 ?_))
    refine s_throw (Conc.ag2 _ _) fun env' => ?_
    (repeat (first | refine then_pan ?_))
    refine post_pan ⟨?_, rfl⟩ pks
    rw [here, h1]; rfl
  · have h1 : T[pos]? = none := List.getElem?_eq_none (by omega)
    repeat (any_goals (first | refine s_at ?_ | refine s_skip ?_ | refine s_move ?_ | refine s_assign ?_ | refine s_load ?_ | refine s_loadd ?_ | refine s_pure ?_ | refine s_nil ?_ | refine aw_seq ?_ | refine aw_seqr ?_ | refine aw_false ?_ | refine s_drawn 10 [] ?_ | (refine s_cmp (fun h => ?_) (fun h => ?_) <;> try (exfalso; omega))))
    refine s_throw (Conc.ag2 _ _) fun env' => ?_
    (repeat (first | refine then_pan ?_))
    refine post_pan ⟨?_, rfl⟩ pks
    rw [here, h1]; rfl
set_option maxRecDepth 20000 in set_option maxHeartbeats 4000000 in
theorem smust_yes (hT : Fit T) (hla : last ≤ T.length) (hp : pos ≤ last) (s : ByteArray) (hi : isT (nxt T last pos) s = true) : Sim Tryz.prog I 99 [ptr p, str s] [slv p bA bF tx T last pos] (fun o τ => o = .ret (.tu []) ∧ τ = [slv p bA bF tx T last (pos + 1)]) := by
  have g1 := sim_isT I (nxt T last pos) s
  rw [hi] at g1
  have hT' : T.length ≤ 1000000 := hT
  refine sim_body Tryz.func99 rfl rfl rfl ?_
  repeat (any_goals (first | refine s_at ?_ | refine s_skip ?_ | refine s_move ?_ | refine s_load ?_ | refine s_pure ?_ | refine s_nil ?_ | refine aw_seq ?_ | refine aw_seqr ?_ | refine aw_false ?_ | refine s_store' ?_ | refine s_callr (snext I p bA bF tx T last pos hT hla hp) ?_ | refine s_call0 g1 ?_ | refine s_add ?_))
  exact d_void ⟨rfl, rfl⟩ pks
set_option maxRecDepth 20000 in set_option maxHeartbeats 4000000 in
theorem smust_no (hT : Fit T) (hla : last ≤ T.length) (hp : pos ≤ last) (s : ByteArray) (hi : isT (nxt T last pos) s = false) : Sim Tryz.prog I 99 [ptr p, str s] [slv p bA bF tx T last pos] (fun o τ => o = .pan (stopV 22 (here tx T pos)) ∧ τ = [slv p bA bF tx T last pos]) := by
  have g1 := sim_isT I (nxt T last pos) s
  rw [hi] at g1
  refine sim_body Tryz.func99 rfl rfl rfl ?_
  repeat (any_goals (first | refine s_at ?_ | refine s_move ?_ | refine s_pure ?_ | refine s_nil ?_ | refine aw_seq ?_ | refine aw_seqr ?_ | refine aw_true ?_ | refine s_callr (snext I p bA bF tx T last pos hT hla hp) ?_ | refine s_call0 g1 ?_ | (refine s_call (swrong I p bA bF tx T last pos hT hla hp) (fun x τ' h => by cases h.1) (fun c τ' h env' => ?_); obtain ⟨h1, rfl⟩ := h; cases h1)))
  (repeat (first | refine then_pan ?_))
  exact post_pan ⟨rfl, rfl⟩ pks
end
end Go.Proofs.YtjcocblohiglbaaGreatDoor
/- The reader of expressions: what stands behind an operation's first part. Conditions: none. -/
namespace Go.Proofs.YtjcocblohiglbaaGreatDoor
open Go.Dp
set_option linter.unusedVariables false
set_option linter.unusedSimpArgs false
inductive SRes (α : Type) where
  | ok (a : α) (pos : Nat)
  | bad (pos : Nat)
def SRes.bnd {α β : Type} (r : SRes α) (f : α → Nat → SRes β) : SRes β := match r with
  | .ok a q => f a q
  | .bad q => .bad q
def SRes.wf {α : Type} (r : SRes α) (last lo : Nat) : Prop := match r with
  | .ok _ q => lo ≤ q ∧ q ≤ last
  | .bad _ => True
theorem swf_bnd {α β : Type} {last lo lo' : Nat} {r : SRes α} {f : α → Nat → SRes β} (h : r.wf last lo) (hf : ∀ a q, lo ≤ q → q ≤ last → (f a q).wf last lo') : (r.bnd f).wf last lo' := by
  cases r with
  | ok a q => exact hf a q h.1 h.2
  | bad q => trivial
theorem swf_le {α : Type} {last lo lo' : Nat} {r : SRes α} (h : r.wf last lo) (hl : lo' ≤ lo) : r.wf last lo' := by
  cases r with
  | ok a q => exact ⟨Nat.le_trans hl h.1, h.2⟩
  | bad q => trivial
theorem nxt_lt {T : List Tk} {last pos : Nat} (h : (nxt T last pos).kind ≠ 0) : pos < last := by
  rcases Nat.lt_or_ge pos last with h1 | h1
  · exact h1
  · exfalso; apply h; rw [nxt, if_neg (by omega)]; rfl
theorem nxt_isT {T : List Tk} {last pos : Nat} {s : ByteArray} (h : isT (nxt T last pos) s = true) : pos < last := nxt_lt (T := T) fun h0 => by
  have := (isT_kind h).1
  omega
theorem nxt_part {T : List Tk} {last pos : Nat} (h : partT (nxt T last pos) = true) : pos < last := nxt_lt (T := T) fun h0 => by simp [partT, h0] at h
/-- What is known of a reader of expressions. -/
structure SH (I : World → Prop) (T : List Tk) (last : Nat) (A F : List (ByteArray × Mx)) : Prop where
  fit : Fit T
  last : last ≤ T.length
  nums : Nums T
  itoa : ItoaOk I
  join : JoinOk I
  after : ∀ q, q ∈ A → MxOk q.2
  first : ∀ q, q ∈ F → MxOk q.2
section
variable (I : World → Prop) (p bA bF : Nat) (tx : ByteArray) (T : List Tk) (last : Nat) (A F : List (ByteArray × Mx))
def Slv (pos : Nat) : List Rs := [slv p bA bF tx T last pos, .mp bA (kv A), .mp bF (kv F)]
def SimS {α : Type} (f : FuncId) (args : List AV) (τ0 : List Rs) (en : α → AV) (m : SRes α) (pos : Nat) : Prop := Sim Tryz.prog I f args (τ0 ++ Slv p bA bF tx T last A F pos) (fun o τ => match m with
  | .ok a q => o = .ret (en a) ∧ τ = Slv p bA bF tx T last A F q
  | .bad q => o = .pan (stopV 22 (here tx T q)) ∧ ∃ q', τ = Slv p bA bF tx T last A F q')
def enU (x : Nd × Int) : AV := .tu [enc x.1, i64 x.2]
def sParts (up : Int → Nat → SRes (Nd × Int)) : List ByteArray → List Nd → Int → Nat → SRes (List Nd × Int)
  | [], l, e, pos => .ok (l, e) pos
  | s :: ps, l, e, pos => (up 0 pos).bnd fun x q =>
    if partT (nxt T last q) = true ∧ (nxt T last q).s = s then sParts up ps (l ++ [x.1]) ((nxt T last q).e : Int) (q + 1) else .bad q
/-- An operation behind its first part. -/
def sRest (up : Int → Nat → SRes (Nd × Int)) (op : Mx) (l : List Nd) (a0 : Int) (pos : Nat) : SRes Nd :=
  (sParts T last up (op.parts.drop 1) l ((tokAt T (pos - 1)).e : Int) pos).bnd fun r q =>
    if op.right = true then (up (rightSlot op) q).bnd fun x q => .ok (.mk 50 0 (mixName op) (r.1 ++ [x.1]) a0 x.1.e) q
    else .ok (.mk 50 0 (mixName op) r.1 a0 r.2) q
theorem sParts_wf (up : Int → Nat → SRes (Nd × Int)) (wup : ∀ n q, q ≤ last → (up n q).wf last (q + 1)) : ∀ (ps : List ByteArray) (l : List Nd) (e : Int) (pos : Nat), pos ≤ last → (sParts T last up ps l e pos).wf last pos
  | [], l, e, pos, hp => ⟨Nat.le_refl _, hp⟩
  | s :: ps, l, e, pos, hp => by
    rw [sParts]
    refine swf_bnd (wup 0 pos hp) (fun x q h1 h2 => ?_)
    split
    · rename_i h
      have := nxt_part h.1
      exact swf_le (sParts_wf up wup ps _ _ (q + 1) (by omega)) (by omega)
    · trivial
theorem sRest_wf (up : Int → Nat → SRes (Nd × Int)) (wup : ∀ n q, q ≤ last → (up n q).wf last (q + 1)) (op : Mx) (l : List Nd) (a0 : Int) (pos : Nat) (hp : pos ≤ last) : (sRest T last up op l a0 pos).wf last pos := by
  rw [sRest]
  refine swf_bnd (sParts_wf T last up wup _ _ _ pos hp) (fun r q h1 h2 => ?_)
  split
  · refine swf_bnd (wup _ q h2) (fun x q' h3 h4 => ⟨by omega, h4⟩)
  · exact ⟨h1, h2⟩
set_option maxRecDepth 20000 in set_option maxHeartbeats 4000000 in
theorem sim_rest (hs : SH I T last A F) (up : Int → Nat → SRes (Nd × Int)) (wup : ∀ n q, q ≤ last → (up n q).wf last (q + 1)) (op : Mx) (hop : MxOk op) (k : Nat) (l0 : List Nd) (hl0 : l0.length ≤ 1000) (a0 : Int) (pos : Nat) (h0 : 0 < pos) (hp : pos ≤ last)
    (hup : ∀ n q, pos ≤ q → q ≤ last → SimS I p bA bF tx T last A F 74 [ptr p, i64 n] [] enU (up n q) q) :
    SimS I p bA bF tx T last A F 87 [ptr p, emix op, .os k 6 (encs l0), i64 a0] [.tok k 27 6 (encs l0).length] enc (sRest T last up op l0 a0 pos) pos := by
  have hT := hs.fit
  have hT' : T.length ≤ 1000000 := hT
  have hla := hs.last
  have hl : (T.map etok).length = T.length := List.length_map ..
  have ht1 : T[pos - 1]? = some T[pos - 1] := List.getElem?_eq_getElem (by omega)
  have ht2 : (T.map etok)[pos - 1]? = some (etok T[pos - 1]) := by rw [List.getElem?_map, ht1]; rfl
  have ht3 : tokAt T (pos - 1) = T[pos - 1] := by rw [tokAt, List.getD_eq_getElem?_getD, ht1]; rfl
  have hne := hop.ne
  have hlen := hop.len
  have gR := sim_rightSlot I op hop
  have gM := sim_mixName I hs.join op hop
  have hpl : (op.parts.map fun s => str s).length = op.parts.length := List.length_map ..
  have hp1 : 1 ≤ (op.parts.map fun s => str s).length := by
    rw [hpl]
    cases hq : op.parts with
    | nil => exact absurd hq hne
    | cons a b => simp
  unfold SimS Slv
  rw [sRest, ht3]
  generalize hres : sParts T last up (op.parts.drop 1) l0 (T[pos - 1].e : Int) pos = res
  unfold emix emixL at gR gM ⊢
  refine sim_body' Tryz.func87 rfl rfl rfl ?_
  repeat (any_goals (first | refine s_at ?_ | refine s_move ?_ | refine s_assign ?_ | refine s_load ?_ | refine s_loade ?_ | refine s_loadd ?_ | refine s_pure ?_ | refine s_nil ?_ | refine aw_seq ?_ | refine aw_seqr ?_ | refine aw_block ?_ | refine s_alloc (fun _ => ?_) | refine s_box (fun _ => ?_) | refine s_drawn 13 [] ?_ | refine s_sub ?_ | refine s_elem (pos - 1) ht2 ?_ | refine s_from 1 hp1 ?_))
  rename_i b5 b8
  have hdl : ((op.parts.map fun s => str s).drop 1).length = op.parts.length - 1 := by rw [List.length_drop, hpl]
  refine aw_loop (fun s : Nat × List Nd × Int × Nat => [(0, ptr p), (2, .os k 6 (encs s.2.1)), (3, i64 a0), (5, ptr b5), (8, ptr b8), (9, i64 s.2.2.1), (31, .sl 1 ((op.parts.map fun s => str s).drop 1)), (32, i64 (((op.parts.map fun s => str s).drop 1).length : Int)), (33, i64 (s.1 : Int))])
    (fun s => [.tok k 27 6 (encs s.2.1).length, .box b5 [.sl 1 (op.parts.map fun s => str s), boo op.left, boo op.right, i64 op.prio, i64 op.side] 40, .box b8 ty27.zl 27, slv p bA bF tx T last s.2.2.2, .mp bA (kv A), .mp bF (kv F)])
    (fun s => sParts T last up ((op.parts.drop 1).drop s.1) s.2.1 s.2.2.1 s.2.2.2 = res ∧ s.1 ≤ op.parts.length - 1 ∧ s.2.2.2 ≤ last ∧ pos ≤ s.2.2.2 ∧ s.2.1.length ≤ l0.length + s.1) (fun s => op.parts.length - 1 - s.1) (0, l0, (T[pos - 1].e : Int), pos)
    ⟨hres, Nat.zero_le _, hp, Nat.le_refl _, Nat.le_refl _⟩ els _ (Picks.perm pks) ?_
  rintro ⟨i, l, e, pos1⟩ ⟨i1, i2, i3, i4, i5⟩
  dsimp only at i1 i2 i3 i4 i5 ⊢
  have hle := encs_length l
  by_cases hi : i < op.parts.length - 1
  · obtain ⟨s, hss⟩ : ∃ s, (op.parts.drop 1)[i]? = some s := ⟨_, List.getElem?_eq_getElem (by rw [List.length_drop]; omega)⟩
    have hdr : (op.parts.drop 1).drop i = s :: (op.parts.drop 1).drop (i + 1) := by
      rw [List.drop_eq_getElem_cons (by rw [List.length_drop]; omega)]
      rw [List.getElem?_eq_getElem (by rw [List.length_drop]; omega)] at hss
      injection hss with hss
      rw [hss]
    have he1 : ((op.parts.map fun s => str s).drop 1)[i]? = some (str s) := by rw [← List.map_drop, List.getElem?_map, hss]; rfl
    rw [hdr, sParts] at i1
    have g1 := hup 0 pos1 i4 i3
    have w1 := wup 0 pos1 i3
    unfold SimS Slv at g1
    cases h1 : up 0 pos1 with
    | bad q =>
      rw [h1] at g1 i1
      dsimp only [SRes.bnd, List.nil_append] at g1 i1
      subst i1
      dsimp only [SRes.bnd]
      repeat (any_goals (first | refine s_at ?_ | refine s_skip ?_ | refine s_move ?_ | refine s_assign ?_ | refine s_loade ?_ | refine s_nil ?_ | refine aw_seq ?_ | refine aw_seqr ?_ | refine aw_block ?_ | refine aw_true ?_ | (refine s_cmp (fun h => ?_) (fun h => ?_) <;> try (exfalso; omega)) | refine s_elem i he1 ?_ | (refine s_call g1 (fun x τ' h => by cases h.1) (fun c τ' h env' => ?_); obtain ⟨h1, _, rfl⟩ := h; cases h1)))
      (repeat (first | refine then_pan ?_ | refine inb_pan ?_)); exact post_pan ⟨_, .pan _, rfl, _, rfl⟩ pks
    | ok x q =>
      obtain ⟨x, pr⟩ := x
      rw [h1] at g1 i1 w1
      obtain ⟨w2, w3⟩ := w1
      dsimp only [SRes.bnd, enU, List.nil_append] at g1 i1
      rw [enc_ag] at g1
      have f1 := sim_isPart I (nxt T last q)
      have e4 : encs l ++ [AV.ag [i64 x.kind, i64 x.n, str x.s, AV.sl 6 (encs x.l), i64 x.b, i64 x.e]] = encs (l ++ [x]) := by
        rw [encs_append, encs, encs, enc_ag]
      cases cP : partT (nxt T last q) with
      | false =>
        rw [cP] at f1
        rw [if_neg (by simp [cP])] at i1
        subst i1
        dsimp only [SRes.bnd]
        repeat (any_goals (first | refine s_at ?_ | refine s_skip ?_ | refine s_off ?_ | refine s_move ?_ | refine s_assign ?_ | refine s_load ?_ | refine s_loade ?_ | refine s_pick1 ?_ | refine s_pure ?_ | refine s_nil ?_ | refine aw_seq ?_ | refine aw_seqr ?_ | refine aw_block ?_ | refine aw_true ?_ | refine s_alloc (fun _ => ?_) | refine s_store' ?_ | (refine s_cmp (fun h => ?_) (fun h => ?_) <;> try (exfalso; omega)) | refine s_elem i he1 ?_ | (refine s_call g1 (fun x τ' h => ?_) (fun c τ' h => by cases h.1); obtain ⟨h1, rfl⟩ := h; cases h1) | refine s_litq ?_ | refine s_append ?_ | refine s_callr (snext I p bA bF tx T last q hT hla w3) ?_ | refine s_call0 f1 ?_ | (refine s_call (swrong I p bA bF tx T last q hT hla w3) (fun x τ' h => by cases h.1) (fun c τ' h env' => ?_); obtain ⟨h1, rfl⟩ := h; cases h1)))
        (repeat (first | refine then_pan ?_ | refine inb_pan ?_)); exact post_pan ⟨_, .pan _, rfl, _, rfl⟩ pks
      | true =>
        rw [cP] at f1
        have hqt := nxt_part cP
        by_cases cS : (nxt T last q).s = s
        · rw [if_pos ⟨cP, cS⟩] at i1
          repeat (any_goals (first | refine s_at ?_ | refine s_skip ?_ | refine s_move ?_ | refine s_assign ?_ | refine s_load ?_ | refine s_loade ?_ | refine s_pick0 ?_ | refine s_pure ?_ | refine s_nil ?_ | refine aw_seq ?_ | refine aw_seqr ?_ | refine aw_block ?_ | refine aw_true ?_ | refine aw_false ?_ | refine s_alloc (fun _ => ?_) | refine s_store' ?_ | (refine s_cmp (fun h => ?_) (fun h => ?_) <;> try (exfalso; omega)) | (refine s_cmps (fun h => ?_) (fun h => ?_) <;> try (exfalso; exact h cS)) | refine s_elem i he1 ?_ | (refine s_call g1 (fun x τ' h => ?_) (fun c τ' h => by cases h.1); obtain ⟨h1, rfl⟩ := h; cases h1) | refine s_litq ?_ | refine s_append ?_ | refine s_callr (snext I p bA bF tx T last q hT hla w3) ?_ | refine s_call0 f1 ?_ | refine s_add ?_))
          rw [e4]
          refine d_end fun env' he => then_nor ?_
          refine ⟨(i + 1, l ++ [x], ((nxt T last q).e : Int), q + 1), ?dr0, ⟨i1, ?_, ?_, ?_, ?_⟩, ?_, EnvLe.of_eq he ?_, ?perm0⟩
          case perm0 => exact Picks.perm pks
          · dsimp only; omega
          · dsimp only; omega
          · dsimp only; omega
          · dsimp only; rw [List.length_append]; simp only [List.length_cons, List.length_nil]; omega
          · dsimp only; omega
          · exact els
        · rw [if_neg (fun h => cS h.2)] at i1
          subst i1
          dsimp only [SRes.bnd]
          repeat (any_goals (first | refine s_at ?_ | refine s_skip ?_ | refine s_move ?_ | refine s_assign ?_ | refine s_load ?_ | refine s_loade ?_ | refine s_pick0 ?_ | refine s_pure ?_ | refine s_nil ?_ | refine aw_seq ?_ | refine aw_seqr ?_ | refine aw_block ?_ | refine aw_true ?_ | refine s_alloc (fun _ => ?_) | refine s_store' ?_ | (refine s_cmp (fun h => ?_) (fun h => ?_) <;> try (exfalso; omega)) | (refine s_cmps (fun h => ?_) (fun h => ?_) <;> try (exfalso; exact h cS)) | refine s_elem i he1 ?_ | (refine s_call g1 (fun x τ' h => ?_) (fun c τ' h => by cases h.1); obtain ⟨h1, rfl⟩ := h; cases h1) | refine s_litq ?_ | refine s_append ?_ | refine s_callr (snext I p bA bF tx T last q hT hla w3) ?_ | refine s_call0 f1 ?_ | (refine s_call (swrong I p bA bF tx T last q hT hla w3) (fun x τ' h => by cases h.1) (fun c τ' h env' => ?_); obtain ⟨h1, rfl⟩ := h; cases h1)))
          (repeat (first | refine then_pan ?_ | refine inb_pan ?_)); exact post_pan ⟨_, .pan _, rfl, _, rfl⟩ pks
  · have hi' : i = op.parts.length - 1 := by omega
    rw [List.drop_of_length_le (by rw [List.length_drop]; omega), sParts] at i1
    subst i1
    dsimp only [SRes.bnd]
    cases cR : op.right with
    | false =>
      rw [if_neg (by simp)]
      rw [cR] at gM
      repeat (any_goals (first | refine s_at ?_ | refine s_nil ?_ | refine aw_seq ?_ | refine aw_seqr ?_ | refine aw_false ?_ | (refine s_cmp (fun h => ?_) (fun h => ?_) <;> try (exfalso; omega))))
      refine aw_exit ?_; (repeat refine then_exit ?_); refine inb_exit ?_; refine then_nor ?_
      repeat (any_goals (first | refine s_at ?_ | refine s_skip ?_ | refine s_move ?_ | refine s_load ?_ | refine s_pure ?_ | refine s_nil ?_ | refine aw_seq ?_ | refine aw_seqr ?_ | refine aw_false ?_ | refine s_store' ?_ | refine s_call0 gM ?_))
      refine aw_ret ?_; (repeat (first | refine then_ret ?_))
      refine post_of ⟨_, .ret _ _ ?_, rfl, rfl⟩ rvs pks
      exact sub_enc (.os _ _ _ _ (Subs.refl _))
    | true =>
      rw [if_pos rfl]
      rw [cR] at gM gR
      have g1 := hup (rightSlot op) pos1 i4 i3
      unfold SimS Slv at g1
      cases h1 : up (rightSlot op) pos1 with
      | bad q =>
        rw [h1] at g1
        dsimp only [SRes.bnd, List.nil_append] at g1 ⊢
        repeat (any_goals (first | refine s_at ?_ | refine s_nil ?_ | refine aw_seq ?_ | refine aw_seqr ?_ | refine aw_false ?_ | (refine s_cmp (fun h => ?_) (fun h => ?_) <;> try (exfalso; omega))))
        refine aw_exit ?_; (repeat refine then_exit ?_); refine inb_exit ?_; refine then_nor ?_
        repeat (any_goals (first | refine s_at ?_ | refine s_move ?_ | refine s_load ?_ | refine s_pure ?_ | refine s_nil ?_ | refine aw_seq ?_ | refine aw_seqr ?_ | refine aw_true ?_ | refine s_call0 gR ?_ | (refine s_call g1 (fun x τ' h => by cases h.1) (fun c τ' h env' => ?_); obtain ⟨h1, _, rfl⟩ := h; cases h1)))
        (repeat (first | refine then_pan ?_)); exact post_pan ⟨_, .pan _, rfl, _, rfl⟩ pks
      | ok x q =>
        obtain ⟨x, pr⟩ := x
        rw [h1] at g1
        dsimp only [SRes.bnd, enU, List.nil_append] at g1 ⊢
        rw [enc_ag] at g1
        have e4 : encs l ++ [AV.ag [i64 x.kind, i64 x.n, str x.s, AV.sl 6 (encs x.l), i64 x.b, i64 x.e]] = encs (l ++ [x]) := by
          rw [encs_append, encs, encs, enc_ag]
        repeat (any_goals (first | refine s_at ?_ | refine s_nil ?_ | refine aw_seq ?_ | refine aw_seqr ?_ | refine aw_false ?_ | (refine s_cmp (fun h => ?_) (fun h => ?_) <;> try (exfalso; omega))))
        refine aw_exit ?_; (repeat refine then_exit ?_); refine inb_exit ?_; refine then_nor ?_
        repeat (any_goals (first | refine s_at ?_ | refine s_move ?_ | refine s_assign ?_ | refine s_load ?_ | refine s_loadd ?_ | refine s_pure ?_ | refine s_nil ?_ | refine aw_seq ?_ | refine aw_seqr ?_ | refine aw_true ?_ | refine s_alloc (fun _ => ?_) | refine s_store' ?_ | refine s_call0 gR ?_ | (refine s_call g1 (fun x τ' h => ?_) (fun c τ' h => by cases h.1); obtain ⟨h1, rfl⟩ := h; cases h1) | refine s_drawc [0, 1, 2, 4, 5, 3, 6, 7] [3] ?_ | refine s_litq ?_ | refine s_appendd ?_ | refine s_call0 gM ?_))
        refine aw_ret ?_; (repeat (first | refine then_ret ?_))
        refine post_of ⟨_, .ret _ _ ?_, rfl, rfl⟩ rvs pks
        rw [e4]
        exact sub_enc (.os _ _ _ _ (Subs.refl _))
end
end Go.Proofs.YtjcocblohiglbaaGreatDoor
