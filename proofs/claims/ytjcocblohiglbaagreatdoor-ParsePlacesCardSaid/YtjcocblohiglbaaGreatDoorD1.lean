/- Deep values: a logic of states without addresses, part 1. Conditions: none. -/
import Derived.Below
import Derived.Laws.AppendOwn
import Derived.Tactics
import Derived.WalkKit
import Derived.Orders
import Derived.Laws.Tables
import Derived.Laws.IdiomCopy
import Derived.Great.BuildSlice
/- Deep values: what a value of Go stands for, without addresses; and what of a world it leans on. Conditions: none. -/
namespace Go.Dp
open Go.RowKit
set_option linter.unusedVariables false

/-- A value as it is meant: `sc` as it stands; `sl`: a slice by its elements, each of `es` cells; `os`: one that may be appended to, by the token `k`;
`ep`: an address of cells that stay; `un`: nothing is known. -/
inductive AV where
  | un
  | sc (v : Value)
  | sl (es : Nat) (rs : List AV)
  | os (k es : Nat) (rs : List AV)
  | ep (cs : List AV)
  | fn (f : Fn) (first captured : List AV)
  | ag (cs : List AV)
  | tu (vs : List AV)
  | ic (t : TypeId) (v : AV)
  deriving Inhabited

/-- The cells of an element or a variable. -/
def AV.cells : AV → List AV
  | .ag cs => cs
  | .sc v => v.cells.toList.map .sc
  | v => [v]
/-- A value of one cell. -/
def AV.one : AV → Bool
  | .un | .ag _ | .tu _ => false
  | .sc v => v.oneCell'
  | _ => true

structure Gh where
  pr : Nat → Nat → Prop
  top : Nat → Nat
  row : Nat → Value
  nt : Nat

inductive VR (g : Gh) (w : World) : Value → AV → Prop
  | un (v : Value) : VR g w v .un
  | sc (v : Value) : VR g w v (.sc v)
  | nl (es : Nat) (a : Option Addr) (c : Nat) (hc : c ≤ maxLen) : VR g w (.slice a 0 c) (.sl es [])
  | sl (b o len cap es : Nat) (rs : List AV) (vs : Nat → Nat → Value) (hl : rs.length = len) (hc : len ≤ cap) (hm : cap ≤ maxLen)
      (h1 : ∀ i j, i < len → j < es → w.cell? ⟨b, o + (i * es + j), none⟩ = some (vs i j) ∧ g.pr b (o + (i * es + j)))
      (h2 : ∀ (i j : Nat) (x y : AV), rs[i]? = some x → x.cells[j]? = some y → VR g w (vs i j) y)
      (h3 : ∀ x, x ∈ rs → x.cells.length = es ∧ ∀ y, y ∈ x.cells → y.one = true) : VR g w (.slice (some ⟨b, o, none⟩) len cap) (.sl es rs)
  | os (v : Value) (k es : Nat) (rs : List AV) (h : VR g w v (.sl es rs)) (h1 : rs.length ≤ g.top k) (h2 : rs.length = g.top k → g.row k = v) (h3 : k < g.nt) : VR g w v (.os k es rs)
  | ep (b o : Nat) (cs : List AV) (vs : Nat → Value)
      (h1 : ∀ j, j < cs.length → w.cell? ⟨b, o + j, none⟩ = some (vs j) ∧ g.pr b (o + j))
      (h2 : ∀ (j : Nat) (y : AV), cs[j]? = some y → VR g w (vs j) y) (h3 : ∀ y, y ∈ cs → y.one = true) : VR g w (.pointer (some ⟨b, o, none⟩)) (.ep cs)
  | fn (f : Fn) (first captured : Array Value) (fs cs : List AV) (hf : first.size = fs.length) (hc : captured.size = cs.length)
      (h1 : ∀ (i : Nat) (x : Value) (y : AV), first[i]? = some x → fs[i]? = some y → VR g w x y)
      (h2 : ∀ (i : Nat) (x : Value) (y : AV), captured[i]? = some x → cs[i]? = some y → VR g w x y) : VR g w (.func f first captured) (.fn f fs cs)
  | ag (xs : Array Value) (cs : List AV) (hl : xs.size = cs.length)
      (h : ∀ (i : Nat) (x : Value) (y : AV), xs[i]? = some x → cs[i]? = some y → VR g w x y) (h3 : ∀ y, y ∈ cs → y.one = true) : VR g w (.agg xs) (.ag cs)
  | tu (xs : Array Value) (cs : List AV) (hl : xs.size = cs.length)
      (h : ∀ (i : Nat) (x : Value) (y : AV), xs[i]? = some x → cs[i]? = some y → VR g w x y) : VR g w (.tuple xs) (.tu cs)
  | ic (t : TypeId) (v : Value) (x : AV) (h : VR g w v x) : VR g w (.iface t v) (.ic t x)

/-- Later: what was to stay has stayed, and a token's row is the same while its top is. -/
structure Ext (g : Gh) (w : World) (g' : Gh) (w' : World) : Prop where
  pr : ∀ b o, g.pr b o → g'.pr b o ∧ w'.cell? ⟨b, o, none⟩ = w.cell? ⟨b, o, none⟩
  tok : ∀ k, k < g.nt → g.top k ≤ g'.top k ∧ (g'.top k = g.top k → g'.row k = g.row k)
  nt : g.nt ≤ g'.nt
  size : w.heap.size ≤ w'.heap.size
theorem Ext.refl (g : Gh) (w : World) : Ext g w g w := ⟨fun _ _ h => ⟨h, rfl⟩, fun _ _ => ⟨Nat.le_refl _, fun _ => rfl⟩, Nat.le_refl _, Nat.le_refl _⟩
theorem Ext.trans {g0 g1 g2 : Gh} {w0 w1 w2 : World} (h : Ext g0 w0 g1 w1) (k : Ext g1 w1 g2 w2) : Ext g0 w0 g2 w2 := by
  refine ⟨fun b o hp => ?_, fun t ht => ?_, Nat.le_trans h.nt k.nt, Nat.le_trans h.size k.size⟩
  · obtain ⟨h1, h2⟩ := h.pr b o hp
    obtain ⟨h3, h4⟩ := k.pr b o h1
    exact ⟨h3, h4.trans h2⟩
  · obtain ⟨h1, h2⟩ := h.tok t ht
    obtain ⟨h3, h4⟩ := k.tok t (Nat.lt_of_lt_of_le ht h.nt)
    refine ⟨Nat.le_trans h1 h3, fun he => ?_⟩
    have e1 : g1.top t = g0.top t := by omega
    rw [h4 (by omega), h2 e1]
theorem VR.mono {g g' : Gh} {w w' : World} (hx : Ext g w g' w') {v : Value} {x : AV} (h : VR g w v x) : VR g' w' v x := by
  induction h with
  | un v => exact .un v
  | sc v => exact .sc v
  | nl es a c hc => exact .nl es a c hc
  | sl b o len cap es rs vs hl hc hm h1 h2 h3 ih =>
    refine .sl b o len cap es rs vs hl hc hm (fun i j hi hj => ?_) ih h3
    obtain ⟨e1, e2⟩ := h1 i j hi hj
    obtain ⟨e3, e4⟩ := hx.pr _ _ e2
    exact ⟨e4.trans e1, e3⟩
  | os v k es rs h h1 h2 h3 ih =>
    obtain ⟨e1, e2⟩ := hx.tok k h3
    exact .os v k es rs ih (by omega) (fun he => by rw [e2 (by omega)]; exact h2 (by omega)) (Nat.lt_of_lt_of_le h3 hx.nt)
  | ep b o cs vs h1 h2 h3 ih =>
    refine .ep b o cs vs (fun j hj => ?_) ih h3
    obtain ⟨e1, e2⟩ := h1 j hj
    obtain ⟨e3, e4⟩ := hx.pr _ _ e2
    exact ⟨e4.trans e1, e3⟩
  | fn f first captured fs cs hf hc h1 h2 ih1 ih2 => exact .fn f first captured fs cs hf hc ih1 ih2
  | ag xs cs hl h h3 ih => exact .ag xs cs hl ih h3
  | tu xs cs hl h ih => exact .tu xs cs hl ih
  | ic t v x h ih => exact .ic t v x ih

/-! ### Lists of values -/
def VRs (g : Gh) (w : World) (vs : List Value) (xs : List AV) : Prop := vs.length = xs.length ∧ ∀ (i : Nat) (v : Value) (x : AV), vs[i]? = some v → xs[i]? = some x → VR g w v x
theorem VRs.mono {g g' : Gh} {w w' : World} (hx : Ext g w g' w') {vs : List Value} {xs : List AV} (h : VRs g w vs xs) : VRs g' w' vs xs :=
  ⟨h.1, fun i v x hv hy => (h.2 i v x hv hy).mono hx⟩
theorem VRs.nil (g : Gh) (w : World) : VRs g w [] [] := ⟨rfl, fun i v x h => by simp at h⟩
theorem VRs.cons {g : Gh} {w : World} {v : Value} {x : AV} {vs : List Value} {xs : List AV} (h : VR g w v x) (hs : VRs g w vs xs) : VRs g w (v :: vs) (x :: xs) := by
  refine ⟨by simp [hs.1], fun i u y hu hy => ?_⟩
  cases i with
  | zero => simp at hu hy; subst hu; subst hy; exact h
  | succ i => exact hs.2 i u y (by simpa using hu) (by simpa using hy)
theorem VRs.append {g : Gh} {w : World} {vs us : List Value} {xs ys : List AV} (h : VRs g w vs xs) (k : VRs g w us ys) : VRs g w (vs ++ us) (xs ++ ys) := by
  refine ⟨by simp [h.1, k.1], fun i v x hv hx => ?_⟩
  by_cases hi : i < vs.length
  · rw [List.getElem?_append_left hi] at hv
    rw [List.getElem?_append_left (by rw [← h.1]; exact hi)] at hx
    exact h.2 i v x hv hx
  · rw [List.getElem?_append_right (by omega)] at hv
    rw [List.getElem?_append_right (by rw [← h.1]; omega), ← h.1] at hx
    exact k.2 _ v x hv hx
theorem VRs.get {g : Gh} {w : World} {vs : List Value} {xs : List AV} (h : VRs g w vs xs) {i : Nat} {x : AV} (hx : xs[i]? = some x) : ∃ v, vs[i]? = some v ∧ VR g w v x := by
  have hi : i < xs.length := by
    rcases Nat.lt_or_ge i xs.length with h | h
    · exact h
    · rw [List.getElem?_eq_none h] at hx; cases hx
  have hi' : i < vs.length := by rw [h.1]; exact hi
  exact ⟨vs[i], List.getElem?_eq_getElem hi', h.2 i _ x (List.getElem?_eq_getElem hi') hx⟩

/-! ### What a state owns -/
inductive Rs where
  | box (b : Nat) (cs : List AV) (t : TypeId)
  | tok (k : Nat) (e : TypeId) (es n : Nat)
  | mp (b : Nat) (kvs : List (Value × AV))
def Rs.block (g : Gh) : Rs → Option Nat
  | .box b _ _ => some b
  | .tok k _ _ _ => (g.row k).ownBlock
  | .mp b _ => some b
def Rs.name : Rs → Option Nat
  | .tok k _ _ _ => some k
  | _ => none
/-- None of the first cells shares its bytes with a text. -/
def Thaw (fz : Nat × Nat) (n : Nat) : Prop := ∀ o, o < n → ¬ (fz.1 ≤ o ∧ o < fz.2)
theorem Thaw.zero (n : Nat) : Thaw (0, 0) n := fun o _ h => absurd h.2 (Nat.not_lt_zero _)
def RsOk (g : Gh) (w : World) (base : Nat) : Rs → Prop
  | .box b cs t => base ≤ b ∧ (∃ vs fz, w.heap[b]? = some (.cells vs t fz) ∧ Thaw fz vs.size ∧ VRs g w vs.toList cs ∧ ∀ x, x ∈ cs → x.one = true ∨ x = .un) ∧ ∀ o, ¬ g.pr b o
  | .tok k e es n => k < g.nt ∧ g.top k = n ∧ (∃ xs, w.ownsRow base e es (g.row k) n xs) ∧ ∀ b o, (g.row k).ownBlock = some b → n * es ≤ o → ¬ g.pr b o
  | .mp b kvs => base ≤ b ∧ (∃ es clock, w.heap[b]? = some (.map es clock) ∧ es.toList.map (·.key) = kvs.map (·.1) ∧ VRs g w (es.toList.map (·.val)) (kvs.map (·.2)) ∧ (kvs.map (·.1)).Nodup) ∧ ∀ o, ¬ g.pr b o
def Apart2 (g : Gh) (r s : Rs) : Prop := (∀ b, r.block g = some b → s.block g ≠ some b) ∧ ∀ k, r.name = some k → s.name ≠ some k
structure Rel (w0 : World) (g : Gh) (σ : List Rs) (w : World) : Prop where
  ok : ∀ r, r ∈ σ → RsOk g w w0.heap.size r
  apart : σ.Pairwise (Apart2 g)
  cells : ∀ b o, g.pr b o → (w.cell? ⟨b, o, none⟩).isSome = true
  fresh : ∀ k, g.nt ≤ k → g.top k = 0 ∧ g.row k = .slice none 0 0
  below : Below w0.heap.size w0 w
end Go.Dp
/- Deep values: code, walked over them. Conditions: none. -/
namespace Go.Dp
open Go.RowKit
set_option linter.unusedVariables false
abbrev Env := List (Nat × AV)
def Env.get : Env → Nat → AV
  | [], _ => .un
  | (k, v) :: l, t => bif Nat.beq k t then v else Env.get l t
def Env.put (env : Env) (d : Option Tmp) (v : AV) : Env := match d with
  | some d => (d, v) :: env
  | none => env
def Env.val (env : Env) : Operand → AV
  | .tmp t => env.get t
  | .const v => .sc v
  | .global g => .sc (.pointer (some ⟨g, 0, none⟩))
  | .func f => .fn (.func f) [] []
def dstOk (N : Nat) : Option Tmp → Bool
  | some d => Nat.blt d N
  | none => true
structure EnvR (g : Gh) (w : World) (N : Nat) (a : Act) (env : Env) : Prop where
  size : a.tmps.size = N
  defers : a.defers = []
  val : ∀ t, VR g w (a.tmps.getD t undef) (env.get t)
theorem EnvR.mono {g g' : Gh} {w w' : World} {N : Nat} {a : Act} {env : Env} (hx : Ext g w g' w') (h : EnvR g w N a env) : EnvR g' w' N a env := ⟨h.size, h.defers, fun t => (h.val t).mono hx⟩
theorem EnvR.eval {g : Gh} {w : World} {N : Nat} {a : Act} {env : Env} (h : EnvR g w N a env) (x : Operand) : VR g w (a.eval x) (env.val x) := by
  cases x with
  | tmp t => exact h.val t
  | const v => exact .sc v
  | global g => exact .sc _
  | func f => exact .fn _ _ _ _ _ rfl rfl (fun i x y h => by simp at h) (fun i x y h => by simp at h)
theorem EnvR.put {g : Gh} {w : World} {N : Nat} {a : Act} {env : Env} (h : EnvR g w N a env) {d : Option Tmp} (hd : dstOk N d = true) {v : Value} {x : AV} (hv : VR g w v x) : EnvR g w N (a.put d v) (env.put d x) := by
  cases d with
  | none => exact h
  | some d =>
    have hd' : d < N := by simpa [dstOk] using hd
    refine ⟨by simp [Act.put, h.size], h.defers, fun t => ?_⟩
    show VR g w ((a.tmps.setIfInBounds d v).getD t undef) (bif Nat.beq d t then x else env.get t)
    by_cases e : d = t
    · subst e
      rw [show Nat.beq d d = true by simp]
      simp only [cond_true, Array.getD_eq_getD_getElem?, Array.getElem?_setIfInBounds_self, h.size, if_pos hd', Option.getD_some]
      exact hv
    · rw [show Nat.beq d t = false by cases h : Nat.beq d t with | false => rfl | true => exact absurd (Nat.eq_of_beq_eq_true h) e]
      simp only [cond_false, Array.getD_eq_getD_getElem?, Array.getElem?_setIfInBounds_ne e]
      have := h.val t
      rwa [Array.getD_eq_getD_getElem?] at this
/-- Less is known. -/
def EnvLe (env env' : Env) : Prop := ∀ t, env'.get t = env.get t ∨ env'.get t = .un
theorem EnvR.less {g : Gh} {w : World} {N : Nat} {a : Act} {env env' : Env} (h : EnvR g w N a env) (hl : EnvLe env env') : EnvR g w N a env' := by
  refine ⟨h.size, h.defers, fun t => ?_⟩
  rcases hl t with e | e
  · rw [e]; exact h.val t
  · rw [e]; exact .un _
theorem EnvLe.of_list {env : Env} : ∀ {env' : Env}, (∀ p, p ∈ env' → env.get p.1 = p.2) → EnvLe env env'
  | [], _, t => .inr rfl
  | (k, v) :: l, h, t => by
    by_cases e : k = t
    · subst e
      refine .inl ?_
      show (bif Nat.beq k k then v else Env.get l k) = _
      rw [show Nat.beq k k = true by simp]
      exact (h (k, v) (List.mem_cons_self ..)).symm
    · show (bif Nat.beq k t then v else Env.get l t) = _ ∨ (bif Nat.beq k t then v else Env.get l t) = _
      rw [show Nat.beq k t = false by cases h : Nat.beq k t with | false => rfl | true => exact absurd (Nat.eq_of_beq_eq_true h) e]
      exact EnvLe.of_list (fun p hp => h p (List.mem_cons_of_mem _ hp)) t

theorem Apart2.symm {g : Gh} {r s : Rs} (h : Apart2 g r s) : Apart2 g s r := ⟨fun b h1 h2 => h.1 b h2 h1, fun k h1 h2 => h.2 k h2 h1⟩
theorem Rel.perm {w0 w : World} {g : Gh} {σ σ' : List Rs} (h : Rel w0 g σ w) (hp : σ.Perm σ') : Rel w0 g σ' w :=
  ⟨fun r hr => h.ok r (hp.mem_iff.2 hr), (hp.pairwise_iff (fun h => h.symm)).1 h.apart, h.cells, h.fresh, h.below⟩
theorem Rel.sub {w0 w : World} {g : Gh} {σ σ' : List Rs} (h : Rel w0 g σ w) (hp : σ'.Sublist σ) : Rel w0 g σ' w :=
  ⟨fun r hr => h.ok r (hp.subset hr), h.apart.sublist hp, h.cells, h.fresh, h.below⟩
theorem Rel.drop {w0 w : World} {g : Gh} {σ τ dr fr : List Rs} (h : Rel w0 g (σ ++ fr) w) (hp : σ.Perm (τ ++ dr)) : Rel w0 g (τ ++ fr) w :=
  (h.perm (hp.append_right fr)).sub (by rw [List.append_assoc]; exact List.Sublist.append_left (List.sublist_append_right _ _) _)
section
variable (P : Program) (I : World → Prop)
/-- A post of deep values, over a world. -/
def Lift (w0 : World) (g : Gh) (w : World) (N : Nat) (fr : List Rs) (Q : Exit → Env → List Rs → Prop) : Exit → Act → World → Prop :=
  fun e a' w' => ∃ g' env' σ', Ext g w g' w' ∧ Rel w0 g' (σ' ++ fr) w' ∧ EnvR g' w' N a' env' ∧ Q e env' σ'
structure AW (N : Nat) (c : Code) (Q : Exit → Env → List Rs → Prop) (env : Env) (σ : List Rs) : Prop where
  run : ∀ w0 gz wz g a w fr, I w0 → Ext gz wz g w → Rel w0 g (σ ++ fr) w → EnvR g w N a env → c.wp P (Lift w0 gz wz N fr Q) a w
inductive Out where
  | ret (v : AV)
  | pan (c : List PanicEntry)
def Out.is (g : Gh) (w : World) : Ending → Out → Prop
  | .returned v, .ret x => VR g w v x
  | .panicked c, .pan d => c = d
  | _, _ => False
/-- A function with a body. -/
def Ent (f : FuncId) : Prop := ∃ fn c, P.funcs[f]? = some fn ∧ (fn.name == "runtime.NumGoroutine") = false ∧ fn.body = some c
/-- What a function comes to. -/
def Sim (f : FuncId) (args : List AV) (σ : List Rs) (R : Out → List Rs → Prop) : Prop :=
  Ent P f ∧ ∀ w0 g w fr vs, I w0 → Rel w0 g (σ ++ fr) w → VRs g w vs args → Calls P f vs.toArray w fun e w' => ∃ g' σ' o, Ext g w g' w' ∧ Rel w0 g' (σ' ++ fr) w' ∧ o.is g' w' e ∧ R o σ'
end

section
variable {P : Program} {I : World → Prop} {N : Nat} {Q : Exit → Env → List Rs → Prop} {env : Env} {σ : List Rs}
theorem Sim.mono {f : FuncId} {args : List AV} {R R' : Out → List Rs → Prop} (h : Sim P I f args σ R) (hr : ∀ o σ', R o σ' → R' o σ') : Sim P I f args σ R' :=
  ⟨h.1, fun w0 g w fr vs hI hR hv => (h.2 w0 g w fr vs hI hR hv).mono fun e w' ⟨g', σ', o, h1, h2, h3, h4⟩ => ⟨g', σ', o, h1, h2, h3, hr _ _ h4⟩⟩
/-! ### Control -/
theorem aw_skip (h : Q .normal env σ) : AW P I N .skip Q env σ := ⟨fun w0 gz wz g a w fr hI hx hR hE => wp_skip ⟨g, env, σ, hx, hR, hE, h⟩⟩
theorem aw_ret (h : Q .ret env σ) : AW P I N .ret Q env σ := ⟨fun w0 gz wz g a w fr hI hx hR hE => wp_ret ⟨g, env, σ, hx, hR, hE, h⟩⟩
theorem aw_exit {id : Nat} (h : Q (.exit id) env σ) : AW P I N (.exit id) Q env σ := ⟨fun w0 gz wz g a w fr hI hx hR hE => wp_exit ⟨g, env, σ, hx, hR, hE, h⟩⟩
def Then (K : Env → List Rs → Prop) (Q : Exit → Env → List Rs → Prop) : Exit → Env → List Rs → Prop
  | .normal, env, σ => K env σ
  | e, env, σ => Q e env σ
theorem aw_seq {x y : Code} (h : AW P I N x (Then (AW P I N y Q) Q) env σ) : AW P I N (.seq x y) Q env σ := by
  constructor
  intro w0 gz wz g a w fr hI hx hR hE
  refine wp_seq (wp_mono (h.run w0 gz wz g a w fr hI hx hR hE) ?_)
  rintro e a' w' ⟨g', env', σ', h1, h2, h3, h4⟩
  cases e with
  | normal => exact h4.run w0 gz wz g' a' w' fr hI h1 h2 h3
  | _ => exact ⟨g', env', σ', h1, h2, h3, h4⟩
def InBlock (id : Nat) (Q : Exit → Env → List Rs → Prop) : Exit → Env → List Rs → Prop
  | .exit id', env, σ => if id' = id then Q .normal env σ else Q (.exit id') env σ
  | e, env, σ => Q e env σ
theorem aw_block {id : Nat} {c : Code} (h : AW P I N c (InBlock id Q) env σ) : AW P I N (.block id c) Q env σ := by
  constructor
  intro w0 gz wz g a w fr hI hx hR hE
  refine wp_block (wp_mono (h.run w0 gz wz g a w fr hI hx hR hE) ?_)
  rintro e a' w' ⟨g', env', σ', h1, h2, h3, h4⟩
  cases e with
  | exit id' =>
    show Exit.inBlock id (Lift w0 gz wz N fr Q) (.exit id') a' w'
    dsimp only [Exit.inBlock]
    have h4' : (if id' = id then Q .normal env' σ' else Q (.exit id') env' σ') := h4
    by_cases e : id' = id
    · rw [if_pos e] at h4' ⊢
      exact ⟨g', env', σ', h1, h2, h3, h4'⟩
    · rw [if_neg e] at h4' ⊢
      exact ⟨g', env', σ', h1, h2, h3, h4'⟩
  | _ => exact ⟨g', env', σ', h1, h2, h3, h4⟩
theorem VR.bool {g : Gh} {w : World} {v : Value} {u : Value} (h : VR g w v (.sc u)) : v = u := by cases h; rfl
theorem aw_cond {c : Operand} {x y : Code} {t : Bool} (hc : env.val c = .sc (.bool t)) (h1 : t = true → AW P I N x Q env σ) (h2 : t = false → AW P I N y Q env σ) : AW P I N (.cond c x y) Q env σ := by
  constructor
  intro w0 gz wz g a w fr hI hx hR hE
  have hv := hE.eval c
  rw [hc] at hv
  exact wp_cond_split hv.bool (fun e => (h1 e).run w0 gz wz g a w fr hI hx hR hE) (fun e => (h2 e).run w0 gz wz g a w fr hI hx hR hE)
theorem aw_less {c : Code} {env' : Env} (hl : EnvLe env env') (h : AW P I N c Q env' σ) : AW P I N c Q env σ :=
  ⟨fun w0 gz wz g a w fr hI hx hR hE => h.run w0 gz wz g a w fr hI hx hR (hE.less hl)⟩
/-- A loop: `s` says where it is. -/
theorem aw_loop {S : Type} {c : Code} (E : S → Env) (Τ : S → List Rs) (inv : S → Prop) (μ : S → Nat) (s0 : S) (h0 : inv s0) (hE0 : EnvLe env (E s0)) (dr0 : List Rs) (hT : σ.Perm (Τ s0 ++ dr0))
    (round : ∀ s, inv s → AW P I N c (Then (fun env' σ' => ∃ s' dr, inv s' ∧ μ s' < μ s ∧ EnvLe env' (E s') ∧ σ'.Perm (Τ s' ++ dr)) Q) (E s) (Τ s)) : AW P I N (.loop c) Q env σ := by
  constructor
  intro w0 gz wz g a w fr hI hx hR hE
  let J : Nat → Act → World → Prop := fun n a w => ∃ s g, inv s ∧ μ s = n ∧ Ext gz wz g w ∧ Rel w0 g (Τ s ++ fr) w ∧ EnvR g w N a (E s)
  have key : ∀ n a w, J n a w → (Code.loop c).wp P (Lift w0 gz wz N fr Q) a w := by
    intro n a w hJ
    intro b k cs
    have run : ∀ n a w, J n a w → ∃ e a' w', Lift w0 gz wz N fr Q e a' w' ∧ Arrives P (lone (b.at a (.code c :: .inLoop c :: k)) cs w) b k cs e a' w' := by
      intro n
      induction n using Nat.strongRecOn with
      | _ n ih =>
        rintro a w ⟨s, g, hi, hn, h1, h2, h3⟩
        obtain ⟨e, a₁, w₁, hq, harr⟩ := (round s hi).run w0 gz wz g a w fr hI h1 h2 h3 b (.inLoop c :: k) cs
        obtain ⟨g', env', σ', h4, h5, h6, h7⟩ := hq
        cases e with
        | normal =>
          obtain ⟨s', dr, i1, i2, i3, i4⟩ := h7
          have h5 := h5.drop i4
          obtain ⟨e₂, a₂, w₂, hq₂, harr₂⟩ := ih (μ s') (hn ▸ i2) a₁ w₁ ⟨s', g', i1, rfl, h4, h5, h6.less i3⟩
          exact ⟨e₂, a₂, w₂, hq₂, .of_steps (Steps.trans harr (.one step_inLoop)) harr₂⟩
        | exit id => exact ⟨_, a₁, w₁, ⟨g', env', σ', h4, h5, h6, h7⟩, .pass (x := .inLoop c) rfl (fun _ _ => .inl (by simp)) harr⟩
        | goto l => exact ⟨_, a₁, w₁, ⟨g', env', σ', h4, h5, h6, h7⟩, .pass (x := .inLoop c) rfl (fun _ _ => .inl (by simp)) harr⟩
        | ret => exact ⟨_, a₁, w₁, ⟨g', env', σ', h4, h5, h6, h7⟩, .pass (x := .inLoop c) rfl (fun _ _ => .inl (by simp)) harr⟩
        | panic ch => exact ⟨_, a₁, w₁, ⟨g', env', σ', h4, h5, h6, h7⟩, .pass (x := .inLoop c) rfl (fun _ _ => .inl (by simp)) harr⟩
        | outgrown => exact ⟨_, a₁, w₁, ⟨g', env', σ', h4, h5, h6, h7⟩, .pass (x := .inLoop c) rfl (fun _ _ => .inl (by simp)) harr⟩
    obtain ⟨e, a', w', hq, harr⟩ := run n a w hJ
    exact ⟨e, a', w', hq, .of_steps (.one step_loop) harr⟩
  exact key _ a w ⟨s0, g, h0, rfl, hx, hR.drop hT, hE.less hE0⟩
variable {ops : Array Oper}
/-- Whether a guarded operation is wanted. -/
theorem yield_of {g : Gh} {w : World} {a : Act} (hE : EnvR g w N a env) {j : Nat} {t : Bool} {oj : Oper} {d : Tmp} (hj : ops[j]? = some oj) (hd : oj.dst = some d) (hv : env.get d = .sc (.bool t)) : yielded ops a.tmps j = some t := by
  have h := hE.val d
  rw [hv] at h
  have := h.bool
  have h2 : a.tmps.getD d undef = .bool t := this
  simp only [yielded, hj, hd, Option.bind_some]
  rw [Array.getD_eq_getD_getElem?] at h2
  cases he : a.tmps[d]? with
  | none => rw [he] at h2; exact absurd h2 (by simp [undef])
  | some u => rw [he] at h2; rw [show u = .bool t from h2]
end
end Go.Dp
/- Deep values: steps of a world and what a state owns. Conditions: none. -/
namespace Go.Dp
open Go.RowKit
set_option linter.unusedVariables false
theorem RsOk.keep {g g' : Gh} {w w' : World} {base : Nat} {r : Rs} (hx : Ext g w g' w') (hb : ∀ b, r.block g = some b → w'.heap[b]? = w.heap[b]?) (hp : ∀ b o, r.block g = some b → g'.pr b o → g.pr b o)
    (ht : ∀ k, r.name = some k → g'.top k = g.top k) (h : RsOk g w base r) : RsOk g' w' base r := by
  cases r with
  | mp b kvs =>
    obtain ⟨h1, ⟨es, clock, h2, h3, h4, h6⟩, h5⟩ := h
    exact ⟨h1, ⟨es, clock, (hb b rfl).trans h2, h3, h4.mono hx, h6⟩, fun o ho => h5 o (hp b o rfl ho)⟩
  | box b cs t =>
    obtain ⟨h1, ⟨vs, fz, h2, hz, h3, h4⟩, h5⟩ := h
    exact ⟨h1, ⟨vs, fz, (hb b rfl).trans h2, hz, h3.mono hx, h4⟩, fun o ho => h5 o (hp b o rfl ho)⟩
  | tok k e es n =>
    obtain ⟨h1, h2, ⟨xs, h3⟩, h4⟩ := h
    have e1 := ht k rfl
    have e2 : g'.row k = g.row k := (hx.tok k h1).2 e1
    refine ⟨Nat.lt_of_lt_of_le h1 hx.nt, e1.trans h2, ⟨xs, ?_⟩, fun b o hbo hn hpr => h4 b o (by rw [← e2]; exact hbo) hn (hp b o (by show (g.row k).ownBlock = _; rw [← e2]; exact hbo) hpr)⟩
    rw [e2]
    refine ⟨h3.1, ?_⟩
    rcases h3.2 with h | ⟨gb, cap, cur, hv, hbs, hh, rest⟩
    · exact .inl h
    · exact .inr ⟨gb, cap, cur, hv, hbs, (hb gb (by show (g.row k).ownBlock = _; rw [hv]; rfl)).trans hh, rest⟩
theorem RsOk.lt {g : Gh} {w : World} {base : Nat} {r : Rs} (h : RsOk g w base r) {b : Nat} (hb : r.block g = some b) : base ≤ b ∧ b < w.heap.size := by
  cases r with
  | mp b' kvs =>
    obtain ⟨h1, ⟨es, clock, h2, h3, h4⟩, h5⟩ := h
    cases hb
    exact ⟨h1, (Array.getElem?_eq_some_iff.1 h2).1⟩
  | box b' cs t =>
    obtain ⟨h1, ⟨vs, fz, h2, h3, h4⟩, h5⟩ := h
    cases hb
    exact ⟨h1, (Array.getElem?_eq_some_iff.1 h2).1⟩
  | tok k e es n =>
    obtain ⟨h1, h2, ⟨xs, h3⟩, h4⟩ := h
    exact h3.lt b hb
theorem Apart2.keep {g g' : Gh} {r s : Rs} (h : Apart2 g r s) (h1 : r.block g' = r.block g) (h2 : s.block g' = s.block g) : Apart2 g' r s := ⟨fun b hb hc => h.1 b (h1 ▸ hb) (h2 ▸ hc), h.2⟩
/-- The one resource ahead has turned to others; the rest has stayed. -/
theorem Rel.step {w0 w w' : World} {g g' : Gh} {σ τ ρ : List Rs} (h : Rel w0 g (σ ++ ρ) w) (hx : Ext g w g' w') (hτ : ∀ r, r ∈ τ → RsOk g' w' w0.heap.size r) (hap : τ.Pairwise (Apart2 g'))
    (hb : ∀ r, r ∈ ρ → ∀ b, r.block g = some b → w'.heap[b]? = w.heap[b]? ∧ ∀ o, g'.pr b o → g.pr b o) (ht : ∀ r, r ∈ ρ → ∀ k, r.name = some k → g'.top k = g.top k)
    (hd : ∀ r, r ∈ τ → ∀ s, s ∈ ρ → Apart2 g' r s)
    (hc : ∀ b o, g'.pr b o → (w'.cell? ⟨b, o, none⟩).isSome = true) (hf : ∀ k, g'.nt ≤ k → g'.top k = 0 ∧ g'.row k = .slice none 0 0) (hB : Below w0.heap.size w0 w') : Rel w0 g' (τ ++ ρ) w' := by
  have hrow : ∀ r, r ∈ ρ → r.block g' = r.block g := by
    intro r hr
    have hok := h.ok r (List.mem_append_right _ hr)
    cases r with
    | mp b kvs => rfl
    | box b cs t => rfl
    | tok k e es n =>
      show (g'.row k).ownBlock = (g.row k).ownBlock
      rw [(hx.tok k hok.1).2 (ht _ hr k rfl)]
  refine ⟨fun r hr => ?_, ?_, hc, hf, hB⟩
  · rcases List.mem_append.1 hr with hr | hr
    · exact hτ r hr
    · exact (h.ok r (List.mem_append_right _ hr)).keep hx (fun b hbb => (hb r hr b hbb).1) (fun b o hbb => (hb r hr b hbb).2 o) (ht r hr)
  · rw [List.pairwise_append]
    refine ⟨hap, ?_, hd⟩
    have := (List.pairwise_append.1 h.apart).2.1
    exact this.imp_of_mem fun ha hb' hab => hab.keep (hrow _ ha) (hrow _ hb')
theorem Rel.apart_of {w0 w : World} {g : Gh} {σ ρ : List Rs} (h : Rel w0 g (σ ++ ρ) w) {r s : Rs} (hr : r ∈ σ) (hs : s ∈ ρ) : Apart2 g r s := (List.pairwise_append.1 h.apart).2.2 r hr s hs
theorem cell_lt {w : World} {b o : Nat} (h : (w.cell? ⟨b, o, none⟩).isSome = true) : b < w.heap.size := by
  cases hh : w.heap[b]? with
  | none => simp [World.cell?, hh] at h
  | some x => exact (Array.getElem?_eq_some_iff.1 hh).1
theorem cell_block {w w' : World} {b o : Nat} (h : w'.heap[b]? = w.heap[b]?) : w'.cell? ⟨b, o, none⟩ = w.cell? ⟨b, o, none⟩ := World.cell?_of_block (w := w) (a := ⟨b, o, none⟩) h
theorem Ext.of_pr {g : Gh} {w w' : World} (hs : w.heap.size ≤ w'.heap.size) (h : ∀ b o, g.pr b o → w'.heap[b]? = w.heap[b]?) : Ext g w g w' :=
  ⟨fun b o hp => ⟨hp, cell_block (h b o hp)⟩, fun k _ => ⟨Nat.le_refl _, fun _ => rfl⟩, Nat.le_refl _, hs⟩
/-- New cells. -/
theorem Rel.boxz {w0 w : World} {g : Gh} {σ : List Rs} (h : Rel w0 g σ w) {vs : Array Value} {cs : List AV} (t : TypeId) (fz : Nat × Nat) (hz : Thaw fz vs.size) (hv : VRs g w vs.toList cs) (h1 : ∀ x, x ∈ cs → x.one = true ∨ x = .un) :
    Ext g w g (w.alloc (.cells vs t fz)) ∧ Rel w0 g (.box w.heap.size cs t :: σ) (w.alloc (.cells vs t fz)) := by
  have hold : ∀ b, b < w.heap.size → (w.alloc (.cells vs t fz)).heap[b]? = w.heap[b]? := fun b hb => Below.heap_alloc w _ b hb
  have hx : Ext g w g (w.alloc (.cells vs t fz)) := Ext.of_pr (by simp) fun b o hp => hold b (cell_lt (h.cells b o hp))
  refine ⟨hx, ?_⟩
  have h0 : Rel w0 g ([] ++ σ) w := h
  have hlow : w0.heap.size ≤ w.heap.size := h.below.size
  refine Rel.step (τ := [.box w.heap.size cs t]) h0 hx ?_ (List.pairwise_singleton _ _) ?_ ?_ ?_ ?_ h.fresh (h.below.alloc hlow _)
  · intro r hr
    rw [List.mem_singleton] at hr
    subst hr
    exact ⟨hlow, ⟨vs, fz, heap_alloc_new w _, hz, hv.mono hx, h1⟩, fun o ho => absurd (cell_lt (h.cells _ _ ho)) (Nat.lt_irrefl _)⟩
  · exact fun r hr b hb => ⟨hold b ((h.ok r hr).lt hb).2, fun o ho => ho⟩
  · exact fun r hr k hk => rfl
  · intro r hr s hs
    rw [List.mem_singleton] at hr
    subst hr
    exact ⟨fun b hb hc => by cases hb; exact absurd ((h.ok s hs).lt hc).2 (Nat.lt_irrefl _), fun k hk => by cases hk⟩
  · intro b o hp
    rw [cell_block (hold b (cell_lt (h.cells b o hp)))]
    exact h.cells b o hp
/-- A new variable. -/
theorem Rel.box {w0 w : World} {g : Gh} {σ : List Rs} (h : Rel w0 g σ w) {vs : Array Value} {cs : List AV} (t : TypeId) (hv : VRs g w vs.toList cs) (h1 : ∀ x, x ∈ cs → x.one = true ∨ x = .un) :
    Ext g w g (w.alloc (.cells vs t (0, 0))) ∧ Rel w0 g (.box w.heap.size cs t :: σ) (w.alloc (.cells vs t (0, 0))) := Rel.boxz h t (0, 0) (Thaw.zero _) hv h1
/-- A variable is written. -/
theorem Rel.set {w0 w : World} {g : Gh} {σ : List Rs} {b : Nat} {cs cs' : List AV} {t : TypeId} (h : Rel w0 g (.box b cs t :: σ) w) {vs' : Array Value} (hv : VRs g w vs'.toList cs') (hlen : cs'.length = cs.length) (h1 : ∀ x, x ∈ cs' → x.one = true ∨ x = .un) :
    Ext g w g (w.setRow b vs') ∧ Rel w0 g (.box b cs' t :: σ) (w.setRow b vs') := by
  obtain ⟨k1, ⟨vs, fz, k2, kz, k3, k4⟩, k5⟩ := h.ok _ (List.mem_cons_self ..)
  have hx : Ext g w g (w.setRow b vs') := Ext.of_pr (by simp) fun c o hp => setRow_other w b c vs' (fun e => k5 o (e ▸ hp))
  refine ⟨hx, ?_⟩
  have h0 : Rel w0 g ([.box b cs t] ++ σ) w := h
  refine Rel.step (τ := [.box b cs' t]) h0 hx ?_ (List.pairwise_singleton _ _) ?_ (fun r hr k hk => rfl) ?_ ?_ h.fresh ?_
  · intro r hr
    rw [List.mem_singleton] at hr
    subst hr
    exact ⟨k1, ⟨vs', fz, setRow_heap w b vs vs' t fz k2, (by have e1 := hv.1; have e2 := k3.1; simp at e1 e2; rw [show vs'.size = vs.size by omega]; exact kz), hv.mono hx, h1⟩, k5⟩
  · intro r hr c hc
    refine ⟨setRow_other w b c vs' (fun e => ?_), fun o ho => ho⟩
    subst e
    exact (h0.apart_of (List.mem_singleton_self _) hr).1 _ rfl hc
  · intro r hr s hs
    rw [List.mem_singleton] at hr
    subst hr
    exact ⟨(h0.apart_of (List.mem_singleton_self _) hs).1, fun k hk => by cases hk⟩
  · intro c o hp
    rw [cell_block (setRow_other w b c vs' (fun e => k5 o (e ▸ hp)))]
    exact h.cells c o hp
  · exact h.below.trans ⟨rfl, rfl, rfl, by simp, fun c hc => setRow_other w b c vs' (by omega)⟩
theorem Rel.drew {w0 w : World} {g : Gh} {σ : List Rs} (h : Rel w0 g σ w) : Ext g w g w.drew ∧ Rel w0 g σ w.drew := by
  have hx : Ext g w g w.drew := Ext.of_pr (Nat.le_refl _) fun b o hp => rfl
  refine ⟨hx, ?_⟩
  have := Rel.step (τ := []) (ρ := σ) (σ := []) h hx (fun r hr => by cases hr) List.Pairwise.nil (fun r hr b hb => ⟨rfl, fun o ho => ho⟩) (fun r hr k hk => rfl) (fun r hr => by cases hr) h.cells h.fresh h.below.drew
  exact this
end Go.Dp
/- Deep values: rows that are made, read and lengthened. Conditions: none. -/
namespace Go.Dp
open Go.RowKit
set_option linter.unusedVariables false
theorem VR.sl_one {g : Gh} {w : World} {v : Value} {es : Nat} {rs : List AV} (h : VR g w v (.sl es rs)) : v.oneCell' = true := by cases h <;> rfl
theorem VR.oneCell {g : Gh} {w : World} {v : Value} {x : AV} (h : VR g w v x) (h1 : x.one = true) : v.oneCell' = true := by
  cases h with
  | os v k es rs h _ _ _ => exact h.sl_one
  | _ => first | exact h1 | rfl | cases h1
/-- A list of cells that reads as elements. -/
structure RowR (g : Gh) (w : World) (xs : List Value) (es : Nat) (rs : List AV) : Prop where
  len : xs.length = rs.length * es
  val : ∀ (i : Nat) (x : AV) (j : Nat) (y : AV), rs[i]? = some x → x.cells[j]? = some y → ∃ v, xs[i * es + j]? = some v ∧ VR g w v y
  cells : ∀ x, x ∈ rs → x.cells.length = es ∧ ∀ y, y ∈ x.cells → y.one = true
theorem RowR.mono {g g' : Gh} {w w' : World} (hx : Ext g w g' w') {xs : List Value} {es : Nat} {rs : List AV} (h : RowR g w xs es rs) : RowR g' w' xs es rs :=
  ⟨h.len, fun i x j y h1 h2 => let ⟨v, h3, h4⟩ := h.val i x j y h1 h2; ⟨v, h3, h4.mono hx⟩, h.cells⟩
theorem RowR.nil (g : Gh) (w : World) (es : Nat) : RowR g w [] es [] := ⟨by simp, fun i x j y h => by simp at h, fun x h => by cases h⟩
theorem RowR.append {g : Gh} {w : World} {xs ys : List Value} {es : Nat} {rs qs : List AV} (h : RowR g w xs es rs) (k : RowR g w ys es qs) : RowR g w (xs ++ ys) es (rs ++ qs) := by
  refine ⟨by rw [List.length_append, List.length_append, h.len, k.len, Nat.add_mul], fun i x j y h1 h2 => ?_, fun x hx => ?_⟩
  · have hj : ∀ x : AV, x.cells.length = es → x.cells[j]? = some y → j < es := fun x hl hj => by
      rw [← hl]; exact (List.getElem?_eq_some_iff.1 hj).1
    by_cases hi : i < rs.length
    · rw [List.getElem?_append_left hi] at h1
      obtain ⟨v, h3, h4⟩ := h.val i x j y h1 h2
      refine ⟨v, ?_, h4⟩
      rw [List.getElem?_append_left (List.getElem?_eq_some_iff.1 h3).1]
      exact h3
    · rw [List.getElem?_append_right (by omega)] at h1
      obtain ⟨v, h3, h4⟩ := k.val _ x j y h1 h2
      refine ⟨v, ?_, h4⟩
      have e : i * es + j = xs.length + ((i - rs.length) * es + j) := by
        rw [h.len]
        have : i = rs.length + (i - rs.length) := by omega
        have : i * es = rs.length * es + (i - rs.length) * es := by rw [← Nat.add_mul, ← this]
        omega
      rw [e, List.getElem?_append_right (by omega), Nat.add_sub_cancel_left]
      exact h3
  · rcases List.mem_append.1 hx with hx | hx
    · exact h.cells x hx
    · exact k.cells x hx
theorem RowR.ones {g : Gh} {w : World} {xs : List Value} {es : Nat} {rs : List AV} (h : RowR g w xs es rs) : ∀ v, v ∈ xs → v.oneCell' = true := by
  intro v hv
  obtain ⟨n, hn, rfl⟩ := List.getElem_of_mem hv
  have hes : 0 < es := by
    rcases Nat.eq_zero_or_pos es with e | e
    · rw [h.len, e, Nat.mul_zero] at hn; exact absurd hn (Nat.not_lt_zero _)
    · exact e
  have hi : n / es < rs.length := by
    rw [Nat.div_lt_iff_lt_mul hes, ← h.len]; exact hn
  obtain ⟨hl, hone⟩ := h.cells _ (List.getElem_mem hi)
  have hj : n % es < (rs[n / es]).cells.length := by rw [hl]; exact Nat.mod_lt _ hes
  obtain ⟨u, hu, hr⟩ := h.val (n / es) _ (n % es) _ (List.getElem?_eq_getElem hi) (List.getElem?_eq_getElem hj)
  rw [Nat.mul_comm, Nat.div_add_mod, List.getElem?_eq_getElem hn] at hu
  cases hu
  exact hr.oneCell (hone _ (List.getElem_mem hj))
theorem VR.of_row {g : Gh} {w : World} {xs : List Value} {es : Nat} {rs : List AV} (h : RowR g w xs es rs) {b o cap : Nat} (hc : rs.length ≤ cap) (hm : cap ≤ maxLen)
    (hb : ∀ j, j < xs.length → w.cell? ⟨b, o + j, none⟩ = xs[j]? ∧ g.pr b (o + j)) : VR g w (.slice (some ⟨b, o, none⟩) rs.length cap) (.sl es rs) := by
  have key : ∀ i j, i < rs.length → j < es → i * es + j < xs.length := by
    intro i j hi hj
    rw [h.len]
    have h1 : (i + 1) * es ≤ rs.length * es := Nat.mul_le_mul_right _ hi
    have h2 : (i + 1) * es = i * es + es := by rw [Nat.add_mul, Nat.one_mul]
    omega
  refine .sl b o rs.length cap es rs (fun i j => xs.getD (i * es + j) undef) rfl hc hm (fun i j hi hj => ?_) (fun i j x y hx hy => ?_) h.cells
  · have hlt := key i j hi hj
    obtain ⟨h1, h2⟩ := hb _ hlt
    rw [h1]
    refine ⟨?_, h2⟩
    simp [List.getD, List.getElem?_eq_getElem hlt]
  · obtain ⟨v, h1, h2⟩ := h.val i x j y hx hy
    simp only [List.getD, h1, Option.getD_some]
    exact h2
theorem VR.row {g : Gh} {w : World} {v : Value} {es : Nat} {rs : List AV} (h : VR g w v (.sl es rs)) : ((∃ a c, v = .slice a 0 c ∧ c ≤ maxLen) ∧ rs = []) ∨
    ∃ b o cap xs, v = .slice (some ⟨b, o, none⟩) rs.length cap ∧ rs.length ≤ cap ∧ cap ≤ maxLen ∧ RowR g w xs es rs ∧ ∀ j, j < xs.length → w.cell? ⟨b, o + j, none⟩ = xs[j]? ∧ g.pr b (o + j) := by
  cases h with
  | nl es a c hc => exact .inl ⟨⟨a, c, rfl, hc⟩, rfl⟩
  | sl b o len cap es rs vs hl hc hm h1 h2 h3 =>
    subst hl
    refine .inr ⟨b, o, cap, (List.range (rs.length * es)).map fun n => vs (n / es) (n % es), rfl, hc, hm, ⟨by simp, fun i x j y hx hy => ?_, h3⟩, fun j hj => ?_⟩
    · have hi : i < rs.length := (List.getElem?_eq_some_iff.1 hx).1
      have hj : j < es := by rw [← (h3 x (List.mem_of_getElem? hx)).1]; exact (List.getElem?_eq_some_iff.1 hy).1
      have hlt : i * es + j < rs.length * es := by
        have h1 : (i + 1) * es ≤ rs.length * es := Nat.mul_le_mul_right _ hi
        have h2 : (i + 1) * es = i * es + es := by rw [Nat.add_mul, Nat.one_mul]
        omega
      refine ⟨vs i j, ?_, h2 i j x y hx hy⟩
      rw [List.getElem?_map, List.getElem?_range hlt]
      have e1 : (i * es + j) / es = i := by rw [Nat.mul_comm, Nat.mul_add_div (by omega), Nat.div_eq_of_lt hj, Nat.add_zero]
      have e2 : (i * es + j) % es = j := by rw [Nat.mul_comm, Nat.mul_add_mod, Nat.mod_eq_of_lt hj]
      simp [e1, e2]
    · have hj' : j < rs.length * es := by simpa using hj
      have hes : 0 < es := by
        rcases Nat.eq_zero_or_pos es with e | e
        · rw [e, Nat.mul_zero] at hj'; exact absurd hj' (Nat.not_lt_zero _)
        · exact e
      have hi : j / es < rs.length := by rw [Nat.div_lt_iff_lt_mul hes]; exact hj'
      obtain ⟨e1, e2⟩ := h1 (j / es) (j % es) hi (Nat.mod_lt _ hes)
      rw [Nat.mul_comm, Nat.div_add_mod] at e1 e2
      refine ⟨?_, e2⟩
      rw [e1, List.getElem?_map, List.getElem?_range hj']
      rfl
theorem add_addr (b o j : Nat) : (⟨b, o, none⟩ : Addr).add j = ⟨b, o + j, none⟩ := by unfold Addr.add; split <;> simp_all
section
variable {P : Program} (w : World)
/-- An append, as it goes: into the row, or to a new one. -/
theorem run_append_tok (base : Nat) (t ty e : TypeId) (i : TypeInfo) (z : Value) (ht : P.underlying t = some (.slice e)) (hi : P.info? e = some i) (hz : i.zero = some z)
    (hzs : z.cells.size = i.size) (hsz : 0 < i.size) (v : Value) (n : Nat) (xs : List Value) (hown : w.ownsRow base e i.size v n xs)
    (a : Addr) (m c : Nat) (news : List Value) (hl : news.length = m * i.size) (hnews : ∀ j u, news[j]? = some u → w.cell? (a.add j) = some u) (h1 : ∀ u ∈ news, u.oneCell' = true)
    (h63 : n + m ≤ maxLen) (hbytes : (n + m) * i.bytes ≤ 140737488355328) (hbase : base ≤ w.heap.size) :
    ∃ v' w', (Builtin.append_ #[t, t] ty #[v, .slice (some a) m c]).run P w = .ok v' w' ∧ w'.ownsRow base e i.size v' (n + m) (xs ++ news) ∧ w.grownBy w' v.ownBlock ∧
      (v'.ownBlock = v.ownBlock ∨ (w.grownBy w' none ∧ ∀ b, v'.ownBlock = some b → w.heap.size ≤ b)) := by
  have h63' : n + m ≤ 9223372036854775807 := by simp only [maxLen] at h63; omega
  have hlen : (xs ++ news).length = (n + m) * i.size := by rw [List.length_append, hown.1, hl, Nat.add_mul]
  have grown : ∀ (old : Nat), old < n + m → ∃ w1, w1 = w.drew.alloc (.cells (xs.toArray ++ news.toArray ++ Builtin.zeroCells z.cells (grownCap w (n + m) old e - (n + m))) e) ∧
      w1.ownsRow base e i.size (.slice (some ⟨w.heap.size, 0, none⟩) (n + m) (grownCap w (n + m) old e)) (n + m) (xs ++ news) ∧ ∀ row, w.grownBy w1 row := by
    intro old ho
    have hge := grownCap_ge w (n + m) old e
    have hcm : grownCap w (n + m) old e ≤ maxLen := grownCap_le_maxLen w (n + m) old e h63
    refine ⟨_, rfl, ⟨hlen, .inr ⟨w.heap.size, _, _, rfl, hbase, heap_alloc_new w.drew _, hge, hcm, ?_, ?_⟩⟩, fun row => ⟨rfl, rfl, rfl, by simp, fun k hk _ => Below.heap_alloc w.drew _ k hk⟩⟩
    · simp only [Array.size_append, List.size_toArray, size_zeroCells, hzs, hown.1, hl, ← Nat.add_mul]
      congr 1
      omega
    · simp only [Array.toList_append, List.append_assoc]
      rw [← List.append_assoc, ← hlen]
      exact List.take_left
  rcases hown.2 with ⟨rfl, rfl⟩ | ⟨g, cap, cur, rfl, hbg, hg, hnc, hcm, hcs, htake⟩
  · have hx : xs = [] := List.eq_nil_of_length_eq_zero (by simpa using hown.1)
    subst hx
    by_cases hm : m = 0
    · subst hm
      have hn : news = [] := List.eq_nil_of_length_eq_zero (by simpa using hl)
      subst hn
      refine ⟨.slice none 0 0, w, ?_, World.ownsRow_nil w base e i.size, ⟨rfl, rfl, rfl, Nat.le_refl _, fun _ _ _ => rfl⟩, .inl rfl⟩
      simp [Builtin.append_, run_underlying ht, sizeOf, typeInfo, hi, Builtin.lenOf, Builtin.firstCells, loadCells, loadCellsFrom]
    · have hr := run_append_nil (P := P) w t ty e i z ht hi hz a m c news hl hnews (by omega) (by omega) (by have hb := hbytes; simp only [Nat.zero_add] at hb; omega)
      obtain ⟨w1, hw1, ho1, hg1⟩ := grown 0 (by omega)
      subst hw1
      simp only [Nat.zero_add, List.nil_append, Array.empty_append] at ho1 hg1 ⊢
      exact ⟨_, _, hr, ho1, hg1 _, .inr ⟨hg1 _, fun b hb => by cases hb; exact Nat.le_refl _⟩⟩
  · by_cases hroom : n + m ≤ cap
    · have hfit : n * i.size + news.length ≤ cur.size := by rw [hl, hcs, ← Nat.add_mul]; exact Nat.mul_le_mul_right _ hroom
      have hr := run_append_room (P := P) w t ty e i ht hi g n cap cur hg a m c news hl hnews h1 hroom hfit
      refine ⟨_, _, hr, ⟨hlen, .inr ⟨g, cap, _, rfl, hbg, setRow_heap w g cur _ e _ hg, hroom, hcm, ?_, ?_⟩⟩, ⟨rfl, rfl, rfl, by simp, fun k _ hk => setRow_other w g k _ (fun e => hk (by simp [Value.ownBlock, e]))⟩, .inl rfl⟩
      · simp only [List.size_toArray, List.length_append, List.length_take, List.length_drop, Array.length_toList]
        omega
      · rw [htake, ← hlen]
        exact List.take_left
    · have holds : ∀ j u, xs[j]? = some u → w.cell? ((⟨g, 0, none⟩ : Addr).add j) = some u := hown.cells (g := g) rfl
      have hr := run_append_grow (P := P) w t ty e i z ht hi hz ⟨g, 0, none⟩ n cap xs hown.1 holds a m c news hl hnews (by omega) (by omega) (growslice_fits (by omega) hbytes)
      obtain ⟨w1, hw1, ho1, hg1⟩ := grown cap (by omega)
      subst hw1
      exact ⟨_, _, hr, ho1, hg1 _, .inr ⟨hg1 _, fun b hb => by cases hb; exact Nat.le_refl _⟩⟩
end
/-- A row of the state's own: its cells read as its elements, and stay. -/
theorem own_cells {w : World} {base e es : Nat} {v : Value} {n : Nat} {xs : List Value} (h : w.ownsRow base e es v n xs) {b : Nat} (hb : v.ownBlock = some b) :
    ∃ cap, v = .slice (some ⟨b, 0, none⟩) n cap ∧ n ≤ cap ∧ cap ≤ maxLen ∧ ∀ j, j < xs.length → w.cell? ⟨b, 0 + j, none⟩ = xs[j]? := by
  rcases h.2 with ⟨rfl, _⟩ | ⟨g, cap, cur, rfl, hbg, hg, hnc, hcm, hcs, htake⟩
  · cases hb
  · cases hb
    refine ⟨cap, rfl, hnc, hcm, fun j hj => ?_⟩
    rw [cell_of_row w g _ cur e (0, 0) hg, Nat.zero_add, ← htake, List.getElem?_take_of_lt (by rw [← htake] at hj; simp at hj; omega)]
    simp
def Gh.with (g : Gh) (pr : Nat → Nat → Prop) (k n : Nat) (v : Value) (nt : Nat) : Gh :=
  { pr := pr, top := fun j => if j = k then n else g.top j, row := fun j => if j = k then v else g.row j, nt := nt }
/-- A new row, with the token of it. -/
theorem Rel.row {w0 w : World} {g : Gh} {σ : List Rs} (h : Rel w0 g σ w) {xs : List Value} {es : Nat} {rs : List AV} (e : TypeId) (hr : RowR g w xs es rs) (hm : rs.length ≤ maxLen) :
    ∃ g', Ext g w g' (w.alloc (.cells xs.toArray e (0, 0))) ∧ Rel w0 g' (.tok g.nt e es rs.length :: σ) (w.alloc (.cells xs.toArray e (0, 0))) ∧
      VR g' (w.alloc (.cells xs.toArray e (0, 0))) (.slice (some ⟨w.heap.size, 0, none⟩) rs.length rs.length) (.os g.nt es rs) := by
  have hold : ∀ b, b < w.heap.size → (w.alloc (.cells xs.toArray e (0, 0))).heap[b]? = w.heap[b]? := fun b hb => Below.heap_alloc w _ b hb
  have hlow : w0.heap.size ≤ w.heap.size := h.below.size
  have hcell : ∀ j, j < xs.length → (w.alloc (.cells xs.toArray e (0, 0))).cell? ⟨w.heap.size, 0 + j, none⟩ = xs[j]? := fun j hj => by
    rw [cell_of_row _ w.heap.size _ xs.toArray e (0, 0) (heap_alloc_new w _), Nat.zero_add]; simp
  refine ⟨g.with (fun b o => g.pr b o ∨ (b = w.heap.size ∧ o < xs.length)) g.nt rs.length (.slice (some ⟨w.heap.size, 0, none⟩) rs.length rs.length) (g.nt + 1), ?_⟩
  have hx : Ext g w (g.with (fun b o => g.pr b o ∨ (b = w.heap.size ∧ o < xs.length)) g.nt rs.length (.slice (some ⟨w.heap.size, 0, none⟩) rs.length rs.length) (g.nt + 1)) (w.alloc (.cells xs.toArray e (0, 0))) := by
    refine ⟨fun b o hp => ⟨.inl hp, cell_block (hold b (cell_lt (h.cells b o hp)))⟩, fun k hk => ?_, Nat.le_succ _, by simp⟩
    have : k ≠ g.nt := Nat.ne_of_lt hk
    simp [Gh.with, this]
  have hrow := VR.of_row (b := w.heap.size) (o := 0) (hr.mono hx) (Nat.le_refl _) hm (fun j hj => ⟨hcell j hj, .inr ⟨rfl, by omega⟩⟩)
  refine ⟨hx, ?_, .os _ _ _ _ hrow (by simp [Gh.with]) (fun _ => by simp [Gh.with]) (Nat.lt_succ_self _)⟩
  have h0 : Rel w0 g ([] ++ σ) w := h
  refine Rel.step (τ := [.tok g.nt e es rs.length]) h0 hx ?_ (List.pairwise_singleton _ _) ?_ ?_ ?_ ?_ ?_ (h.below.alloc hlow _)
  · intro r hr'
    rw [List.mem_singleton] at hr'
    subst hr'
    refine ⟨Nat.lt_succ_self _, by simp [Gh.with], ⟨xs, ?_⟩, ?_⟩
    · simp only [Gh.with, if_true]
      exact ⟨hr.len, .inr ⟨w.heap.size, rs.length, xs.toArray, rfl, hlow, heap_alloc_new w _, Nat.le_refl _, hm, by simp [hr.len], by rw [← hr.len]; simp⟩⟩
    · intro b o hb ho hp
      simp only [Gh.with, if_true, Value.ownBlock, Option.some.injEq] at hb
      subst hb
      rcases hp with hp | ⟨_, hp⟩
      · exact absurd (cell_lt (h.cells _ _ hp)) (Nat.lt_irrefl _)
      · rw [hr.len] at hp; omega
  · refine fun r hr' b hb => ⟨hold b ((h.ok r hr').lt hb).2, fun o ho => ?_⟩
    rcases ho with ho | ⟨ho, _⟩
    · exact ho
    · subst ho; exact absurd ((h.ok r hr').lt hb).2 (Nat.lt_irrefl _)
  · intro r hr' k hk
    cases r with
    | mp b kvs => cases hk
    | box b cs t => cases hk
    | tok k' e' es' n' =>
      cases hk
      have := (h.ok _ hr').1
      have : k ≠ g.nt := Nat.ne_of_lt this
      simp [Gh.with, this]
  · intro r hr' s hs
    rw [List.mem_singleton] at hr'
    subst hr'
    refine ⟨fun b hb hc => ?_, fun k hk hk2 => ?_⟩
    · simp only [Rs.block, Gh.with, if_true, Value.ownBlock, Option.some.injEq] at hb
      subst hb
      have hblk : s.block g = some w.heap.size := by
        cases s with
        | mp b kvs => exact hc
        | box b cs t => exact hc
        | tok k' e' es' n' =>
          have := (h.ok _ hs).1
          have : k' ≠ g.nt := Nat.ne_of_lt this
          simpa [Rs.block, Gh.with, this] using hc
      exact absurd ((h.ok s hs).lt hblk).2 (Nat.lt_irrefl _)
    · cases hk
      cases s with
      | mp b kvs => cases hk2
      | box b cs t => cases hk2
      | tok k' e' es' n' =>
        cases hk2
        exact absurd (h.ok _ hs).1 (Nat.lt_irrefl _)
  · intro b o hp
    rcases hp with hp | ⟨rfl, hp⟩
    · rw [cell_block (hold b (cell_lt (h.cells b o hp)))]
      exact h.cells b o hp
    · have := hcell o hp
      rw [Nat.zero_add] at this
      rw [this, List.getElem?_eq_getElem hp]
      rfl
  · intro k hk
    have hk' : g.nt + 1 ≤ k := hk
    have : k ≠ g.nt := by omega
    simp only [Gh.with, if_neg this]
    exact h.fresh k (by omega)
/-- The token of a nil slice. -/
theorem Rel.nilrow {w0 w : World} {g : Gh} {σ : List Rs} (h : Rel w0 g σ w) (e : TypeId) (es : Nat) :
    ∃ g', Ext g w g' w ∧ Rel w0 g' (.tok g.nt e es 0 :: σ) w ∧ VR g' w (.slice none 0 0) (.os g.nt es []) := by
  have h0 : Rel w0 g ([] ++ σ) w := h
  obtain ⟨f1, f2⟩ := h.fresh g.nt (Nat.le_refl _)
  have hx : Ext g w { g with nt := g.nt + 1 } w := ⟨fun b o hp => ⟨hp, rfl⟩, fun k hk => ⟨Nat.le_refl _, fun _ => rfl⟩, Nat.le_succ _, Nat.le_refl _⟩
  refine ⟨{ g with nt := g.nt + 1 }, hx, ?_, .os _ _ _ _ (.nl es none 0 (Nat.zero_le _)) (Nat.zero_le _) (fun _ => f2) (Nat.lt_succ_self _)⟩
  refine Rel.step (τ := [.tok g.nt e es 0]) h0 hx ?_ (List.pairwise_singleton _ _) (fun r hr b hb => ⟨rfl, fun o ho => ho⟩) (fun r hr k hk => rfl) ?_ h.cells (fun k hk => h.fresh k (Nat.le_of_succ_le hk)) h.below
  · intro r hr
    rw [List.mem_singleton] at hr
    subst hr
    refine ⟨Nat.lt_succ_self _, f1, ⟨[], ?_⟩, fun b o hb => ?_⟩
    · show w.ownsRow _ e es (g.row g.nt) 0 []
      rw [f2]; exact World.ownsRow_nil w _ e es
    · have : (g.row g.nt).ownBlock = some b := hb
      rw [f2] at this; cases this
  · intro r hr s hs
    rw [List.mem_singleton] at hr
    subst hr
    refine ⟨fun b hb hc => ?_, fun k hk hk2 => ?_⟩
    · have : (g.row g.nt).ownBlock = some b := hb
      rw [f2] at this; cases this
    · cases hk
      cases s with
      | mp b kvs => cases hk2
      | box b cs t => cases hk2
      | tok k' e' es' n' =>
        cases hk2
        exact absurd (h.ok _ hs).1 (Nat.lt_irrefl _)
theorem run_append_zero {P : Program} (w : World) (t ty e : TypeId) (i : TypeInfo) (ht : P.underlying t = some (.slice e)) (hi : P.info? e = some i) (a b : Option Addr) (n cap c : Nat) (hn : n ≤ cap) :
    (Builtin.append_ #[t, t] ty #[.slice a n cap, .slice b 0 c]).run P w = .ok (.slice a n cap) w := by
  cases a <;> cases b <;> simp [Builtin.append_, run_underlying ht, sizeOf, typeInfo, hi, Builtin.lenOf, Builtin.firstCells, loadCells, loadCellsFrom, hn, storeCells]
theorem RowR.of_own {w0 w : World} {g : Gh} {k es : Nat} {e : TypeId} {rs : List AV} {v : Value} (hok : RsOk g w w0.heap.size (.tok k e es rs.length)) (hv : VR g w v (.os k es rs)) :
    ∃ xs, w.ownsRow w0.heap.size e es v rs.length xs ∧ RowR g w xs es rs ∧ g.row k = v := by
  obtain ⟨h1, h2, ⟨xs, h3⟩, h4⟩ := hok
  cases hv with
  | os _ _ _ _ hsl k1 k2 k3 =>
    have e := k2 h2.symm
    rw [e] at h3
    refine ⟨xs, h3, ?_, e⟩
    rcases hsl.row with ⟨_, rfl⟩ | ⟨b, o, cap, ys, hv, hc, hm, hr, hcell⟩
    · have : xs = [] := List.eq_nil_of_length_eq_zero (by rw [h3.1]; simp)
      subst this
      exact RowR.nil g w es
    · obtain ⟨cap', hv', _, _, hcell'⟩ := own_cells h3 (b := b) (by rw [hv]; rfl)
      rw [hv] at hv'
      injection hv' with e1 e2 e3
      injection e1 with e1
      injection e1 with e1 e2
      subst e2
      have : xs = ys := by
        have hl : xs.length = ys.length := h3.1.trans hr.len.symm
        refine List.ext_getElem? fun j => ?_
        by_cases hj : j < xs.length
        · rw [← hcell' j hj, (hcell j (by omega)).1]
        · rw [List.getElem?_eq_none (by omega), List.getElem?_eq_none (by omega)]
      rw [this]
      exact hr
/-- A row has been lengthened, in its place or moved. -/
theorem Rel.grown {w0 w w' : World} {g : Gh} {σ : List Rs} {k es : Nat} {e : TypeId} {rs ys : List AV} (h : Rel w0 g (.tok k e es rs.length :: σ) w) {v v' : Value} {xs news : List Value}
    (hok : RsOk g w w0.heap.size (.tok k e es rs.length)) (hown : w.ownsRow w0.heap.size e es v rs.length xs) (hrow : RowR g w xs es rs) (hrk : g.row k = v) (hnews : RowR g w news es ys) (hmp : 0 < ys.length)
    (hown' : w'.ownsRow w0.heap.size e es v' (rs.length + ys.length) (xs ++ news)) (hgr : w.grownBy w' v.ownBlock) (hmoved : v'.ownBlock = v.ownBlock ∨ (w.grownBy w' none ∧ ∀ b, v'.ownBlock = some b → w.heap.size ≤ b)) :
    ∃ g', Ext g w g' w' ∧ Rel w0 g' (.tok k e es (rs.length + ys.length) :: σ) w' ∧ VR g' w' v' (.os k es (rs ++ ys)) := by
  have hnb : ∃ b, v'.ownBlock = some b := by
    rcases hown'.2 with ⟨_, hz0⟩ | ⟨gb, cap, cur, rfl, _⟩
    · omega
    · exact ⟨gb, rfl⟩
  obtain ⟨b', hb'⟩ := hnb
  obtain ⟨cap', hv', hcap1, hcap2, hcell'⟩ := own_cells hown' hb'
  obtain ⟨hlo, hhi⟩ := hown'.lt b' hb'
  have hlen : (xs ++ news).length = (rs.length + ys.length) * es := hown'.1
  -- what was protected lies below the row's end
  have hprk : ∀ b o, v.ownBlock = some b → g.pr b o → o < xs.length := by
    intro b o hb hp
    rcases Nat.lt_or_ge o xs.length with hlt | hge
    · exact hlt
    · exact absurd hp (hok.2.2.2 b o (by rw [hrk]; exact hb) (by rw [← hrow.len]; exact hge))
  have hkeep : ∀ b o, g.pr b o → w'.cell? ⟨b, o, none⟩ = w.cell? ⟨b, o, none⟩ := by
    intro b o hp
    have hblt := cell_lt (h.cells b o hp)
    by_cases hb : v.ownBlock = some b
    · rcases hmoved with hsame | ⟨hgn, _⟩
      · have e1 : b' = b := by rw [hb', hb] at hsame; injection hsame
        subst e1
        have ho := hprk b' o hb hp
        obtain ⟨cap0, _, _, _, hold⟩ := own_cells hown hb
        have e2 := hold o ho
        have e3 := hcell' o (by rw [List.length_append]; omega)
        rw [Nat.zero_add] at e2 e3
        rw [e2, e3, List.getElem?_append_left ho]
      · exact cell_block (hgn.block b hblt (by simp))
    · exact cell_block (hgr.block b hblt (fun e => hb e.symm))
  let g' := g.with (fun b o => g.pr b o ∨ (b = b' ∧ o < (xs ++ news).length)) k (rs.length + ys.length) v' g.nt
  have hx : Ext g w g' w' := by
    refine ⟨fun b o hp => ⟨.inl hp, hkeep b o hp⟩, fun j hj => ?_, Nat.le_refl _, hgr.size⟩
    by_cases e : j = k
    · subst e
      have e1 : g'.top j = rs.length + ys.length := by simp [g', Gh.with]
      have e2 : g.top j = rs.length := hok.2.1
      exact ⟨by omega, fun he => by omega⟩
    · simp [g', Gh.with, e]
  have hrow' := VR.of_row (b := b') (o := 0) ((hrow.append hnews).mono hx) (cap := cap') (by simpa using hcap1) hcap2 (fun j hj => ⟨hcell' j hj, .inr ⟨rfl, by omega⟩⟩)
  rw [List.length_append, ← hv'] at hrow'
  have h0 : Rel w0 g ([.tok k e es rs.length] ++ σ) w := h
  have hown_ne : ∀ r, r ∈ σ → ∀ b, r.block g = some b → v.ownBlock ≠ some b ∧ b' ≠ b := by
    intro r hr b hb
    have hblt := ((h0.ok r (List.mem_append_right _ hr)).lt hb).2
    have hne : v.ownBlock ≠ some b := fun hvb =>
      (h0.apart_of (List.mem_singleton_self _) hr).1 b (by show (g.row k).ownBlock = _; rw [hrk]; exact hvb) hb
    refine ⟨hne, fun e => ?_⟩
    subst e
    rcases hmoved with hsame | ⟨_, hnew⟩
    · exact hne (hsame ▸ hb')
    · exact absurd (hnew b' hb') (by omega)
  refine ⟨g', hx, ?_, .os _ _ _ _ hrow' (by simp [g', Gh.with]) (fun _ => by simp [g', Gh.with]) hok.1⟩
  refine Rel.step (τ := [.tok k e es (rs.length + ys.length)]) h0 hx ?_ (List.pairwise_singleton _ _) ?_ ?_ ?_ ?_ ?_ ?_
  · intro r hr
    rw [List.mem_singleton] at hr
    subst hr
    refine ⟨hok.1, by simp [g', Gh.with], ⟨xs ++ news, by simpa [g', Gh.with] using hown'⟩, ?_⟩
    intro b o hb ho hp
    have hb2 : v'.ownBlock = some b := by simpa [g', Gh.with] using hb
    have e1 : b' = b := by rw [hb'] at hb2; injection hb2
    subst e1
    rcases hp with hp | ⟨_, hp⟩
    · rcases hmoved with hsame | ⟨_, hnew⟩
      · have := hprk b' o (hsame ▸ hb') hp
        rw [List.length_append] at hlen
        omega
      · have h1 := cell_lt (h.cells _ _ hp)
        have h2 := hnew b' hb'
        omega
    · omega
  · intro r hr b hb
    obtain ⟨h1, h2⟩ := hown_ne r hr b hb
    have hblt := ((h0.ok r (List.mem_append_right _ hr)).lt hb).2
    refine ⟨hgr.block b hblt (fun e => h1 e.symm), fun o ho => ?_⟩
    rcases ho with ho | ⟨ho, _⟩
    · exact ho
    · exact absurd ho.symm h2
  · intro r hr j hj
    have hne : j ≠ k := fun e => (h0.apart_of (List.mem_singleton_self _) hr).2 k rfl (e ▸ hj)
    simp [g', Gh.with, hne]
  · intro r hr s hs
    rw [List.mem_singleton] at hr
    subst hr
    refine ⟨fun b hb hc => ?_, fun j hj hj2 => (h0.apart_of (List.mem_singleton_self _) hs).2 j hj hj2⟩
    have hb2 : v'.ownBlock = some b := by simpa [Rs.block, g', Gh.with] using hb
    have e1 : b' = b := by rw [hb'] at hb2; injection hb2
    subst e1
    have hblk : s.block g = some b' := by
      cases s with
      | mp b kvs => exact hc
      | box b cs t => exact hc
      | tok k' e' es' n' =>
        have hne : k' ≠ k := fun e => (h0.apart_of (List.mem_singleton_self _) hs).2 k rfl (by rw [← e]; rfl)
        simpa [Rs.block, g', Gh.with, hne] using hc
    exact (hown_ne s hs b' hblk).2 rfl
  · intro b o hp
    rcases hp with hp | ⟨rfl, hp⟩
    · rw [hkeep b o hp]; exact h.cells b o hp
    · have := hcell' o hp
      rw [Nat.zero_add] at this
      rw [this, List.getElem?_eq_getElem hp]
      rfl
  · intro j hj
    have hne : j ≠ k := by have := hok.1; have : g.nt ≤ j := hj; omega
    simp only [g', Gh.with, if_neg hne]
    exact h.fresh j hj
  · exact h.below.grown hgr h.below.size (fun b hb => by
      have := (hown.lt b hb).1
      exact this)
/-- A row is lengthened. -/
theorem Rel.append {P : Program} {w0 w : World} {g : Gh} {σ : List Rs} {k es : Nat} {e : TypeId} {rs ys : List AV} (h : Rel w0 g (.tok k e es rs.length :: σ) w) {v x : Value} (hv : VR g w v (.os k es rs)) (hy : VR g w x (.sl es ys))
    (t ty : TypeId) (i : TypeInfo) (z : Value) (ht : P.underlying t = some (.slice e)) (hi : P.info? e = some i) (hz : i.zero = some z) (hzs : z.cells.size = i.size) (hes : i.size = es) (hsz : 0 < es)
    (h63 : rs.length + ys.length ≤ maxLen) (hbytes : (rs.length + ys.length) * i.bytes ≤ 140737488355328) :
    ∃ v' g' w', (Builtin.append_ #[t, t] ty #[v, x]).run P w = .ok v' w' ∧ Ext g w g' w' ∧ Rel w0 g' (.tok k e es (rs.length + ys.length) :: σ) w' ∧ VR g' w' v' (.os k es (rs ++ ys)) := by
  have hok := h.ok _ (List.mem_cons_self ..)
  obtain ⟨xs, hown, hrow, hrk⟩ := RowR.of_own hok hv
  by_cases hm : ys = []
  · subst hm
    refine ⟨v, g, w, ?_, Ext.refl g w, h, by simpa using hv⟩
    have hxs : ∃ b c, x = .slice b 0 c := by
      rcases hy.row with ⟨⟨a, c, rfl, _⟩, _⟩ | ⟨b, o, cap, zs, rfl, _⟩
      · exact ⟨a, c, rfl⟩
      · exact ⟨_, cap, rfl⟩
    obtain ⟨b, c, rfl⟩ := hxs
    rcases hown.2 with ⟨rfl, _⟩ | ⟨gb, cap, cur, rfl, _, _, hnc, _⟩
    · exact run_append_zero w t ty e i ht hi none b 0 0 c (Nat.le_refl _)
    · exact run_append_zero w t ty e i ht hi _ b _ cap c hnc
  · have hmp : 0 < ys.length := List.length_pos_iff.2 hm
    rcases hy.row with ⟨_, hn⟩ | ⟨b2, o2, c2, news, rfl, _, _, hnews, hcell⟩
    · exact absurd hn hm
    subst hes
    obtain ⟨v', w', hrun, hown', hgr, hmoved⟩ := run_append_tok (P := P) w w0.heap.size t ty e i z ht hi hz hzs hsz v rs.length xs hown ⟨b2, o2, none⟩ ys.length c2 news hnews.len
      (fun j u hu => by rw [add_addr, (hcell j (List.getElem?_eq_some_iff.1 hu).1).1]; exact hu) hnews.ones h63 hbytes h.below.size
    obtain ⟨g', x1, x2, x3⟩ := Rel.grown h hok hown hrow hrk hnews hmp hown' hgr hmoved
    exact ⟨v', g', w', hrun, x1, x2, x3⟩
end Go.Dp
/- Deep values: regions, in whatever order their edges allow. Conditions: none. -/
namespace Go.Dp
open Go.RowKit
set_option linter.unusedVariables false
def OpsR (g : Gh) (w : World) (a : Act) (env : Env) (o : Oper) : Prop := ∀ x, x ∈ o.op.operands → VR g w (a.eval x) (env.val x)
theorem EnvR.ops {g : Gh} {w : World} {N : Nat} {a : Act} {env : Env} (h : EnvR g w N a env) (o : Oper) : OpsR g w a env o := fun x _ => h.eval x
section
variable (P : Program) (I : World → Prop)
/-- An operation that gives a value, and changes nothing that is owned; `r`: what it looks at. -/
structure RdS (o : Oper) (env : Env) (r : Option Rs) (v : AV) : Prop where
  run : ∀ w0 g a w fr, I w0 → Rel w0 g fr w → (∀ x, r = some x → x ∈ fr) → OpsR g w a env o →
    o.wp P a w (fun a' w' => ∃ g' u, a' = a.put o.dst u ∧ Ext g w g' w' ∧ Rel w0 g' fr w' ∧ VR g' w' u v) (fun _ _ _ => False)
/-- An operation that changes what is owned, or ends in a panic. -/
structure EfS (o : Oper) (env : Env) (τ : List Rs) (R : AV → List Rs → Prop) (RP : List PanicEntry → List Rs → Prop) : Prop where
  run : ∀ w0 g a w fr, I w0 → Rel w0 g (τ ++ fr) w → OpsR g w a env o →
    o.wp P a w (fun a' w' => ∃ g' τ' x u, a' = a.put o.dst u ∧ Ext g w g' w' ∧ Rel w0 g' (τ' ++ fr) w' ∧ VR g' w' u x ∧ R x τ')
      (fun e a' w' => ∃ c g' τ', e = .panic c ∧ a' = a ∧ Ext g w g' w' ∧ Rel w0 g' (τ' ++ fr) w' ∧ RP c τ')
end
/-- Whether an operation is wanted. -/
inductive Wn (ops : Array Oper) (env : Env) (o : Oper) : Bool → Prop
  | none (h : o.guard = none) : Wn ops env o true
  | some (j : Nat) (want : Bool) (oj : Oper) (d : Tmp) (t : Bool) (h : o.guard = some (j, want)) (hj : ops[j]? = some oj) (hd : oj.dst = some d) (hv : env.get d = .sc (.bool t)) : Wn ops env o (t == want)
  | off (j : Nat) (want : Bool) (oj : Oper) (d : Tmp) (v : Value) (h : o.guard = some (j, want)) (hj : ops[j]? = some oj) (hd : oj.dst = some d) (hv : env.get d = .sc v) (hn : v ≠ .bool want) : Wn ops env o false
structure Md where
  okR : Nat → Bool
  okE : Nat → Bool
  okA : Nat → Bool
  un : Nat → Nat → Bool
/-- The cells of a new variable. -/
def zlOf (P : Program) (e : TypeId) : List AV := match (P.info? e).bind (·.zero) with
  | some z => z.cells.toList.map .sc
  | none => []
/-- An operation makes a new variable. -/
def AllocOk (P : Program) (I : World → Prop) (o : Oper) (e : TypeId) : Prop := ∀ env, EfS P I o env [] (fun x τ' => ∃ b, x = .sc (.pointer (some ⟨b, 0, none⟩)) ∧ τ' = [.box b (zlOf P e) e]) (fun _ _ => False)
def keepOk (md : Md) (i : Nat) (σ : List Rs) : List (Nat × Option Rs) → Prop
  | [] => True
  | (_, none) :: H => keepOk md i σ H
  | (q, some r) :: H => (md.un q i = true → r ∈ σ) ∧ keepOk md i σ H
section
variable (P : Program) (I : World → Prop) (N : Nat) (ops : Array Oper) (md : Md) (Q : Exit → Env → List Rs → Prop)
inductive Der : List (Nat × Option Rs) → List Nat → Env → List Rs → Prop
  | nil (H : List (Nat × Option Rs)) (env : Env) (σ σ' : List Rs) (hσ : σ.Perm σ') (h : ∀ env' : Env, (∀ t, env'.get t = env.get t) → Q .normal env' σ') : Der H [] env σ
  | skip (H : List (Nat × Option Rs)) (i : Nat) (c : List Nat) (o : Oper) (env : Env) (σ : List Rs) (ho : ops[i]? = some o) (hd : dstOk N o.dst = true) (hw : Wn ops env o false) (hm : md.okR i = true) (k : Der H c (env.put o.dst (.sc undef)) σ) : Der H (i :: c) env σ
  | rd (H : List (Nat × Option Rs)) (i : Nat) (c : List Nat) (o : Oper) (env : Env) (σ : List Rs) (r : Option Rs) (v : AV) (ho : ops[i]? = some o) (hd : dstOk N o.dst = true) (hw : Wn ops env o true) (hs : RdS P I o env r v) (hr : ∀ x, r = some x → x ∈ σ) (hm : md.okR i = true)
      (k : Der ((i, r) :: H) c (env.put o.dst v) σ) : Der H (i :: c) env σ
  | ef (H : List (Nat × Option Rs)) (i : Nat) (c : List Nat) (o : Oper) (env : Env) (σ τ σ1 : List Rs) (R : AV → List Rs → Prop) (RP : List PanicEntry → List Rs → Prop) (ho : ops[i]? = some o) (hd : dstOk N o.dst = true) (hw : Wn ops env o true) (hs : EfS P I o env τ R RP) (hσ : σ.Perm (τ ++ σ1))
      (hk : keepOk md i σ1 H) (hm : md.okE i = true) (k1 : ∀ x τ', R x τ' → Der H c (env.put o.dst x) (τ' ++ σ1)) (k2 : ∀ c τ', RP c τ' → ∃ σ2 dr, (τ' ++ σ1).Perm (σ2 ++ dr) ∧ ∀ env', Q (.panic c) env' σ2) : Der H (i :: c) env σ
  | al (H : List (Nat × Option Rs)) (i : Nat) (c : List Nat) (o : Oper) (e : TypeId) (env : Env) (σ : List Rs) (ho : ops[i]? = some o) (he : o.op = .alloc e) (hd : dstOk N o.dst = true) (hg : o.guard = none) (hs : AllocOk P I o e) (hm : md.okA i = true)
      (k : ∀ b, Der H c (env.put o.dst (.sc (.pointer (some ⟨b, 0, none⟩)))) (.box b (zlOf P e) e :: σ)) : Der H (i :: c) env σ
end
theorem keepOk_iff {md : Md} {i : Nat} {σ : List Rs} : ∀ {H : List (Nat × Option Rs)}, keepOk md i σ H ↔ ∀ q r, (q, some r) ∈ H → md.un q i = true → r ∈ σ
  | [] => by simp [keepOk]
  | (q, none) :: H => by
    rw [keepOk, keepOk_iff]
    constructor
    · intro h q' r hm
      rcases List.mem_cons.1 hm with hm | hm
      · cases hm
      · exact h q' r hm
    · exact fun h q' r hm => h q' r (List.mem_cons_of_mem _ hm)
  | (q, some r) :: H => by
    rw [keepOk, keepOk_iff]
    constructor
    · rintro ⟨h1, h2⟩ q' r' hm
      rcases List.mem_cons.1 hm with hm | hm
      · cases hm; exact h1
      · exact h2 q' r' hm
    · exact fun h => ⟨h q r (List.mem_cons_self ..), fun q' r' hm => h q' r' (List.mem_cons_of_mem _ hm)⟩
theorem val_congr {env env' : Env} {x : Operand} (h : ∀ t, x = .tmp t → env'.get t = env.get t) : env'.val x = env.val x := by
  cases x with
  | tmp t => exact h t rfl
  | _ => rfl
def Agree (ops : Array Oper) (o : Oper) (env env' : Env) : Prop := ∀ t, t ∈ o.looksAt ops → env'.get t = env.get t
theorem Agree.opsR {ops : Array Oper} {o : Oper} {env env' : Env} (h : Agree ops o env env') {g : Gh} {w : World} {a : Act} (hr : OpsR g w a env' o) : OpsR g w a env o := by
  intro x hx
  have := hr x hx
  rwa [val_congr (fun t e => h t (by
    unfold Oper.looksAt
    refine List.mem_append_left _ ?_
    rw [List.mem_filterMap]
    exact ⟨x, by simpa using hx, by rw [e]⟩))] at this
theorem RdS.congr {P : Program} {I : World → Prop} {ops : Array Oper} {o : Oper} {env env' : Env} {r : Option Rs} {v : AV} (h : RdS P I o env r v) (hag : Agree ops o env env') : RdS P I o env' r v :=
  ⟨fun w0 g a w fr hI hR hr ho => h.run w0 g a w fr hI hR hr (hag.opsR ho)⟩
theorem EfS.congr {P : Program} {I : World → Prop} {ops : Array Oper} {o : Oper} {env env' : Env} {τ : List Rs} {R : AV → List Rs → Prop} {RP : List PanicEntry → List Rs → Prop} (h : EfS P I o env τ R RP) (hag : Agree ops o env env') : EfS P I o env' τ R RP :=
  ⟨fun w0 g a w fr hI hR ho => h.run w0 g a w fr hI hR (hag.opsR ho)⟩
theorem Wn.congr {ops : Array Oper} {o : Oper} {env env' : Env} {b : Bool} (h : Wn ops env o b) (hag : Agree ops o env env') : Wn ops env' o b := by
  cases h with
  | none h => exact .none h
  | some j want oj d t h hj hd hv =>
    refine .some j want oj d t h hj hd ?_
    rw [hag d ?_]
    · exact hv
    · unfold Oper.looksAt
      refine List.mem_append_right _ ?_
      simp [h, hj, hd]
  | off j want oj d v h hj hd hv hn =>
    refine .off j want oj d v h hj hd ?_ hn
    rw [hag d ?_]
    · exact hv
    · unfold Oper.looksAt
      refine List.mem_append_right _ ?_
      simp [h, hj, hd]
theorem get_put {env : Env} {d : Tmp} {v : AV} {t : Nat} : (env.put (some d) v).get t = if d = t then v else env.get t := by
  show (bif Nat.beq d t then v else env.get t) = _
  by_cases e : d = t
  · subst e
    rw [show Nat.beq d d = true by simp, if_pos rfl]; rfl
  · rw [show Nat.beq d t = false by cases h : Nat.beq d t with | false => rfl | true => exact absurd (Nat.eq_of_beq_eq_true h) e, if_neg e]; rfl
theorem put_eq {env env' : Env} (h : ∀ t, env'.get t = env.get t) (d : Option Tmp) (v : AV) : ∀ t, (env'.put d v).get t = (env.put d v).get t := by
  intro t
  cases d with
  | none => exact h t
  | some d => rw [get_put, get_put, h t]
theorem put_agree {ops : Array Oper} {o : Oper} {env : Env} {d : Option Tmp} {v : AV} (h : ∀ e, d = some e → e ∉ o.looksAt ops) : Agree ops o env (env.put d v) := by
  intro t ht
  cases d with
  | none => rfl
  | some d => rw [get_put, if_neg (fun (e : d = t) => h d rfl (by rw [e]; exact ht))]
theorem put_comm {env : Env} {x y : Option Tmp} {v u : AV} (h : ∀ d, x = some d → y ≠ some d) : ∀ t, ((env.put x v).put y u).get t = ((env.put y u).put x v).get t := by
  intro t
  cases x with
  | none => rfl
  | some d =>
    cases y with
    | none => rfl
    | some e =>
      have hne : d ≠ e := fun he => h d rfl (he ▸ rfl)
      rw [get_put, get_put, get_put, get_put]
      by_cases h1 : e = t
      · by_cases h2 : d = t
        · exact absurd (h2.trans h1.symm) hne
        · rw [if_pos h1, if_neg h2, if_pos h1]
      · rw [if_neg h1, if_neg h1]
section
variable {P : Program} {I : World → Prop} {N : Nat} {ops : Array Oper} {md : Md} {Q : Exit → Env → List Rs → Prop}
theorem Der.congr {H : List (Nat × Option Rs)} {c : List Nat} {env : Env} {σ : List Rs} (h : Der P I N ops md Q H c env σ) : ∀ {H' : List (Nat × Option Rs)} {env' : Env}, (∀ q r, (q, some r) ∈ H' → (q, some r) ∈ H) → (∀ t, env'.get t = env.get t) → Der P I N ops md Q H' c env' σ := by
  induction h with
  | nil H env σ σ' hσ h => exact fun hH he => .nil _ _ _ σ' hσ fun e2 h2 => h e2 fun t => (h2 t).trans (he t)
  | al H i c o e env σ ho he hd hg hs hm k ih => exact fun hH hen => .al _ i c o e _ _ ho he hd hg hs hm fun b => ih b hH (put_eq hen _ _)
  | skip H i c o env σ ho hd hw hm k ih => exact fun hH he => .skip _ i c o _ _ ho hd (hw.congr fun t _ => he t) hm (ih hH (put_eq he _ _))
  | rd H i c o env σ r v ho hd hw hs hr hm k ih =>
    intro H' env' hH he
    refine .rd _ i c o _ _ r v ho hd (hw.congr fun t _ => he t) (hs.congr (ops := ops) fun t _ => he t) hr hm (ih (fun q s hq => ?_) (put_eq he _ _))
    rcases List.mem_cons.1 hq with hq | hq
    · exact hq ▸ List.mem_cons_self ..
    · exact List.mem_cons_of_mem _ (hH q s hq)
  | ef H i c o env σ τ σ1 R RP ho hd hw hs hσ hk hm k1 k2 ih =>
    exact fun hH he => .ef _ i c o _ _ τ σ1 R RP ho hd (hw.congr fun t _ => he t) (hs.congr (ops := ops) fun t _ => he t) hσ (keepOk_iff.2 fun q r hq => keepOk_iff.1 hk q r (hH q r hq)) hm (fun x τ' hx => ih x τ' hx hH (put_eq he _ _)) k2
theorem Der.perm {H : List (Nat × Option Rs)} {c : List Nat} {env : Env} {σ : List Rs} (h : Der P I N ops md Q H c env σ) : ∀ {σ' : List Rs}, σ.Perm σ' → Der P I N ops md Q H c env σ' := by
  induction h with
  | nil H env σ σ2 hσ h => exact fun hp => .nil _ _ _ σ2 (hp.symm.trans hσ) h
  | skip H i c o env σ ho hd hw hm k ih => exact fun hp => .skip _ i c o _ _ ho hd hw hm (ih hp)
  | rd H i c o env σ r v ho hd hw hs hr hm k ih => exact fun hp => .rd _ i c o _ _ r v ho hd hw hs (fun x hx => hp.mem_iff.1 (hr x hx)) hm (ih hp)
  | ef H i c o env σ τ σ1 R RP ho hd hw hs hσ hk hm k1 k2 ih => exact fun hp => .ef _ i c o _ _ τ σ1 R RP ho hd hw hs (hp.symm.trans hσ) hk hm k1 k2
  | al H i c o e env σ ho he hd hg hs hm k ih => exact fun hp => .al _ i c o e _ _ ho he hd hg hs hm fun b => ih b (hp.cons _)
/-- A new variable may be made at any time. -/
def AlP (P : Program) (I : World → Prop) (N : Nat) (ops : Array Oper) (md : Md) (p : Nat) : Prop :=
  md.okA p = true ∧ md.okE p = false ∧ md.okR p = false ∧ ∃ o e, ops[p]? = some o ∧ o.op = .alloc e ∧ o.guard = none ∧ dstOk N o.dst = true ∧ AllocOk P I o e
theorem Der.alInv {H : List (Nat × Option Rs)} {p : Nat} {c : List Nat} {env : Env} {σ : List Rs} (h : Der P I N ops md Q H (p :: c) env σ) (hE : md.okE p = false) (hR : md.okR p = false) {o : Oper} {e : TypeId} (ho : ops[p]? = some o) (he : o.op = .alloc e) (b : Nat) :
    Der P I N ops md Q H c (env.put o.dst (.sc (.pointer (some ⟨b, 0, none⟩)))) (.box b (zlOf P e) e :: σ) := by
  cases h with
  | skip _ _ _ o' _ _ ho' hd hw hm k => rw [hR] at hm; cases hm
  | rd _ _ _ o' _ _ r v ho' hd hw hs hr hm k => rw [hR] at hm; cases hm
  | ef _ _ _ o' _ _ τ σ1 R RP ho' hd hw hs hσ hk hm k1 k2 => rw [hE] at hm; cases hm
  | al _ _ _ o' e' _ _ ho' he' hd hg hs hm k =>
    rw [ho] at ho'
    cases ho'
    rw [he] at he'
    cases he'
    exact k b
theorem Der.swapA {H : List (Nat × Option Rs)} {x p : Nat} {c : List Nat} {env : Env} {σ : List Rs} (h : Der P I N ops md Q H (x :: p :: c) env σ) (hp : AlP P I N ops md p)
    (hap : ∀ ox op, ops[x]? = some ox → ops[p]? = some op → Oper.apart ops ox op = true) : Der P I N ops md Q H (p :: x :: c) env σ := by
  obtain ⟨hA, hE, hR, o, e, ho, he, hg, hd, hs⟩ := hp
  refine .al H p (x :: c) o e env σ ho he hd hg hs hA fun b => ?_
  cases h with
  | skip _ _ _ o' _ _ ho' hd' hw' hm' k =>
    obtain ⟨a1, a2, a3⟩ := Oper.apart_spec (hap o' o ho' ho)
    exact .skip _ x _ o' _ _ ho' hd' (hw'.congr (put_agree a3)) hm' ((k.alInv hE hR ho he b).congr (fun q r hq => hq) (fun t => (put_comm a2 t).symm))
  | rd _ _ _ o' _ _ r v ho' hd' hw' hs' hr hm' k =>
    obtain ⟨a1, a2, a3⟩ := Oper.apart_spec (hap o' o ho' ho)
    exact .rd _ x _ o' _ _ r v ho' hd' (hw'.congr (put_agree a3)) (hs'.congr (put_agree a3)) (fun z hz => List.mem_cons_of_mem _ (hr z hz)) hm' ((k.alInv hE hR ho he b).congr (fun q r hq => hq) (fun t => (put_comm a2 t).symm))
  | ef _ _ _ o' _ _ τ σ1 R RP ho' hd' hw' hs' hσ hk hm' k1 k2 =>
    obtain ⟨a1, a2, a3⟩ := Oper.apart_spec (hap o' o ho' ho)
    refine .ef _ x _ o' _ _ τ (.box b (zlOf P e) e :: σ1) R RP ho' hd' (hw'.congr (put_agree a3)) (hs'.congr (put_agree a3)) ((hσ.cons _).trans List.perm_middle.symm) (keepOk_iff.2 fun q r hq hu => List.mem_cons_of_mem _ (keepOk_iff.1 hk q r hq hu)) hm' (fun y τ' hy => ?_) (fun c τ' hc => ?_)
    · exact (((k1 y τ' hy).alInv hE hR ho he b).congr (fun q r hq => hq) (fun t => (put_comm a2 t).symm)).perm List.perm_middle.symm
    · obtain ⟨σ2, dr, h1, h2⟩ := k2 c τ' hc
      exact ⟨σ2, .box b (zlOf P e) e :: dr, (List.perm_middle.trans (h1.cons _)).trans List.perm_middle.symm, h2⟩
  | al _ _ _ o' e' _ _ ho' he' hd' hg' hs' hm' k =>
    obtain ⟨a1, a2, a3⟩ := Oper.apart_spec (hap o' o ho' ho)
    exact .al _ x _ o' e' _ _ ho' he' hd' hg' hs' hm' fun b' => (((k b').alInv hE hR ho he b).congr (fun q r hq => hq) (fun t => (put_comm a2 t).symm)).perm (List.Perm.swap _ _ _)
/-- Two operations that have nothing to do with each other may change their places. -/
theorem Der.swap {H : List (Nat × Option Rs)} {x p : Nat} {c : List Nat} {env : Env} {σ : List Rs} (h : Der P I N ops md Q H (x :: p :: c) env σ) (hx : md.okE x = false) (hxA : md.okA x = false) (hun : md.un x p = true)
    (hap : ∀ ox op, ops[x]? = some ox → ops[p]? = some op → Oper.apart ops ox op = true) : Der P I N ops md Q H (p :: x :: c) env σ := by
  cases h with
  | ef _ _ _ o _ _ τ σ1 R RP ho hd hw hs hσ hk hm k1 k2 => rw [hx] at hm; cases hm
  | al _ _ _ o e _ _ ho he hd hg hs hm k => rw [hxA] at hm; cases hm
  | skip _ _ _ o _ _ ho hd hw hm k =>
    cases k with
    | al _ _ _ o' e' _ _ ho' he' hd' hg' hs' hm' k' =>
      obtain ⟨a1, a2, a3⟩ := Oper.apart_spec (hap o o' ho ho')
      exact .al _ p _ o' e' _ _ ho' he' hd' hg' hs' hm' fun b => .skip _ x _ o _ _ ho hd (hw.congr (put_agree a3)) hm ((k' b).congr (fun q r hq => hq) (fun t => (put_comm a2 t).symm))
    | skip _ _ _ o' _ _ ho' hd' hw' hm' k' =>
      obtain ⟨a1, a2, a3⟩ := Oper.apart_spec (hap o o' ho ho')
      have e1 : Agree ops o' (env.put o.dst (.sc undef)) env := fun t ht => (put_agree a1 t ht).symm
      exact .skip _ p _ o' _ _ ho' hd' (hw'.congr e1) hm' (.skip _ x _ o _ _ ho hd (hw.congr (put_agree a3)) hm (k'.congr (fun q r hq => hq) (fun t => (put_comm a2 t).symm)))
    | rd _ _ _ o' _ _ r' v' ho' hd' hw' hs' hr' hm' k' =>
      obtain ⟨a1, a2, a3⟩ := Oper.apart_spec (hap o o' ho ho')
      have e1 : Agree ops o' (env.put o.dst (.sc undef)) env := fun t ht => (put_agree a1 t ht).symm
      exact .rd _ p _ o' _ _ r' v' ho' hd' (hw'.congr e1) (hs'.congr e1) hr' hm' (.skip _ x _ o _ _ ho hd (hw.congr (put_agree a3)) hm (k'.congr (fun q r hq => hq) (fun t => (put_comm a2 t).symm)))
    | ef _ _ _ o' _ _ τ σ1 R RP ho' hd' hw' hs' hσ hk hm' k1 k2 =>
      obtain ⟨a1, a2, a3⟩ := Oper.apart_spec (hap o o' ho ho')
      have e1 : Agree ops o' (env.put o.dst (.sc undef)) env := fun t ht => (put_agree a1 t ht).symm
      exact .ef _ p _ o' _ _ τ σ1 R RP ho' hd' (hw'.congr e1) (hs'.congr e1) hσ hk hm' (fun y τ' hy => .skip _ x _ o _ _ ho hd (hw.congr (put_agree a3)) hm ((k1 y τ' hy).congr (fun q r hq => hq) (fun t => (put_comm a2 t).symm))) k2
  | rd _ _ _ o _ _ r v ho hd hw hs hr hm k =>
    cases k with
    | al _ _ _ o' e' _ _ ho' he' hd' hg' hs' hm' k' =>
      obtain ⟨a1, a2, a3⟩ := Oper.apart_spec (hap o o' ho ho')
      exact .al _ p _ o' e' _ _ ho' he' hd' hg' hs' hm' fun b => .rd _ x _ o _ _ r v ho hd (hw.congr (put_agree a3)) (hs.congr (put_agree a3)) (fun z hz => List.mem_cons_of_mem _ (hr z hz)) hm ((k' b).congr (fun q r hq => hq) (fun t => (put_comm a2 t).symm))
    | skip _ _ _ o' _ _ ho' hd' hw' hm' k' =>
      obtain ⟨a1, a2, a3⟩ := Oper.apart_spec (hap o o' ho ho')
      have e1 : Agree ops o' (env.put o.dst v) env := fun t ht => (put_agree a1 t ht).symm
      exact .skip _ p _ o' _ _ ho' hd' (hw'.congr e1) hm' (.rd _ x _ o _ _ r v ho hd (hw.congr (put_agree a3)) (hs.congr (put_agree a3)) hr hm (k'.congr (fun q r hq => hq) (fun t => (put_comm a2 t).symm)))
    | rd _ _ _ o' _ _ r' v' ho' hd' hw' hs' hr' hm' k' =>
      obtain ⟨a1, a2, a3⟩ := Oper.apart_spec (hap o o' ho ho')
      have e1 : Agree ops o' (env.put o.dst v) env := fun t ht => (put_agree a1 t ht).symm
      refine .rd _ p _ o' _ _ r' v' ho' hd' (hw'.congr e1) (hs'.congr e1) hr' hm' (.rd _ x _ o _ _ r v ho hd (hw.congr (put_agree a3)) (hs.congr (put_agree a3)) hr hm (k'.congr (fun q s hq => ?_) (fun t => (put_comm a2 t).symm)))
      simp only [List.mem_cons] at hq ⊢
      rcases hq with hq | hq | hq
      · exact .inr (.inl hq)
      · exact .inl hq
      · exact .inr (.inr hq)
    | ef _ _ _ o' _ _ τ σ1 R RP ho' hd' hw' hs' hσ hk hm' k1 k2 =>
      obtain ⟨a1, a2, a3⟩ := Oper.apart_spec (hap o o' ho ho')
      have e1 : Agree ops o' (env.put o.dst v) env := fun t ht => (put_agree a1 t ht).symm
      have hk' := keepOk_iff.1 hk
      refine .ef _ p _ o' _ _ τ σ1 R RP ho' hd' (hw'.congr e1) (hs'.congr e1) hσ (keepOk_iff.2 fun q r hq => hk' q r (List.mem_cons_of_mem _ hq)) hm' (fun y τ' hy => ?_) k2
      refine .rd _ x _ o _ _ r v ho hd (hw.congr (put_agree a3)) (hs.congr (put_agree a3)) (fun z hz => List.mem_append_right _ (hk' x z (by rw [hz]; exact List.mem_cons_self ..) hun)) hm ((k1 y τ' hy).congr (fun q r hq => hq) (fun t => (put_comm a2 t).symm))
theorem Der.bubble {p : Nat} {c2 : List Nat} : ∀ (c1 : List Nat) {H : List (Nat × Option Rs)} {env : Env} {σ : List Rs}, Der P I N ops md Q H (c1 ++ p :: c2) env σ →
    (∀ x, x ∈ c1 → (md.okE x = false ∧ md.okA x = false ∨ AlP P I N ops md p) ∧ md.un x p = true ∧ ∀ ox op, ops[x]? = some ox → ops[p]? = some op → Oper.apart ops ox op = true) → Der P I N ops md Q H (p :: c1 ++ c2) env σ
  | [], H, env, σ, h, _ => h
  | x :: c1, H, env, σ, h, hc => by
    obtain ⟨h1, h2, h3⟩ := hc x (List.mem_cons_self ..)
    have hc' := fun y hy => hc y (List.mem_cons_of_mem _ hy)
    have h' : Der P I N ops md Q H (x :: p :: (c1 ++ c2)) env σ := by
      cases h with
      | ef _ _ _ o _ _ τ σ1 R RP ho hd hw hs hσ hk hm k1 k2 => exact .ef _ x _ o _ _ τ σ1 R RP ho hd hw hs hσ hk hm (fun y τ' hy => Der.bubble c1 (k1 y τ' hy) hc') k2
      | skip _ _ _ o _ _ ho hd hw hm k => exact .skip _ x _ o _ _ ho hd hw hm (Der.bubble c1 k hc')
      | rd _ _ _ o _ _ r v ho hd hw hs hr hm k => exact .rd _ x _ o _ _ r v ho hd hw hs hr hm (Der.bubble c1 k hc')
      | al _ _ _ o e _ _ ho he hd hg hs hm k => exact .al _ x _ o e _ _ ho he hd hg hs hm fun b => Der.bubble c1 (k b) hc'
    rcases h1 with ⟨h1, h1'⟩ | h1
    · exact Der.swap (c := c1 ++ c2) h' h1 h1' h2 h3
    · exact Der.swapA (c := c1 ++ c2) h' h1 h3
/-! ### Which operations stand ahead of which -/
def ancsOf (l : List Oper) (acc : List Nat) : List Nat := match l with
  | [] => acc
  | o :: l => ancsOf l (acc ++ [o.after.toList.foldl (fun s e => if Region.binds .any e then s ||| 2 ^ e.on ||| acc.getD e.on 0 else s) 0])
def lt (an : List Nat) (j i : Nat) : Bool := (an.getD i 0).testBit j
theorem anc_fold (acc : List Nat) (j : Nat) : ∀ (es : List Edge) (s : Nat), (es.foldl (fun s e => if Region.binds .any e then s ||| 2 ^ e.on ||| acc.getD e.on 0 else s) s).testBit j = true → s.testBit j = true ∨ ∃ e, e ∈ es ∧ Region.binds .any e = true ∧ (e.on = j ∨ (acc.getD e.on 0).testBit j = true)
  | [], s, h => .inl h
  | e :: es, s, h => by
    rw [List.foldl_cons] at h
    rcases anc_fold acc j es _ h with h | ⟨e', h1, h2⟩
    · by_cases hb : Region.binds .any e = true
      · rw [if_pos hb, Nat.testBit_or, Nat.testBit_or, Bool.or_eq_true, Bool.or_eq_true, Nat.testBit_two_pow] at h
        rcases h with (h | h) | h
        · exact .inl h
        · exact .inr ⟨e, List.mem_cons_self .., hb, .inl (by simpa using h)⟩
        · exact .inr ⟨e, List.mem_cons_self .., hb, .inr h⟩
      · rw [if_neg hb] at h; exact .inl h
    · exact .inr ⟨e', List.mem_cons_of_mem _ h1, h2⟩
/-- What stands ahead of an operation stands there by one of its edges. -/
theorem anc_spec : ∀ (l pre : List Oper) (acc : List Nat), acc.length = pre.length →
    (∀ i o j, pre[i]? = some o → lt acc j i = true → ∃ e, e ∈ o.after.toList ∧ Region.binds .any e = true ∧ (e.on = j ∨ lt acc j e.on = true)) →
    ∀ i o j, (pre ++ l)[i]? = some o → lt (ancsOf l acc) j i = true → ∃ e, e ∈ o.after.toList ∧ Region.binds .any e = true ∧ (e.on = j ∨ lt (ancsOf l acc) j e.on = true)
  | [], pre, acc, hl, h, i, o, j, ho, hj => by rw [List.append_nil] at ho; exact h i o j ho hj
  | p :: l, pre, acc, hl, h, i, o, j, ho, hj => by
    have grow : ∀ (acc x : List Nat) (i j : Nat), lt acc j i = true → lt (acc ++ x) j i = true := by
      intro acc x i j h
      unfold lt at h ⊢
      by_cases hi : i < acc.length
      · rw [List.getD_eq_getElem?_getD, List.getElem?_append_left hi, ← List.getD_eq_getElem?_getD]; exact h
      · rw [List.getD_eq_getElem?_getD, List.getElem?_eq_none (by omega)] at h; simp at h
    refine anc_spec l (pre ++ [p]) _ (by simp [hl]) ?_ i o j (by rw [List.append_assoc]; exact ho) hj
    intro i o j ho hj
    by_cases hi : i < pre.length
    · rw [List.getElem?_append_left hi] at ho
      have hj' : lt acc j i = true := by
        unfold lt at hj ⊢
        rw [List.getD_eq_getElem?_getD, List.getElem?_append_left (by omega), ← List.getD_eq_getElem?_getD] at hj
        exact hj
      obtain ⟨e, e1, e2, e3⟩ := h i o j ho hj'
      exact ⟨e, e1, e2, e3.imp id (grow _ _ _ _)⟩
    · rw [List.getElem?_append_right (by omega)] at ho
      have hi0 : i = pre.length := by
        rcases Nat.lt_or_ge 0 (i - pre.length) with hh | hh
        · rw [List.getElem?_eq_none (by simp; omega)] at ho; cases ho
        · omega
      subst hi0
      rw [Nat.sub_self] at ho
      cases ho
      unfold lt at hj
      rw [List.getD_eq_getElem?_getD, List.getElem?_append_right (by omega), hl, Nat.sub_self] at hj
      rcases anc_fold acc j _ 0 hj with h0 | ⟨e, e1, e2, e3⟩
      · simp at h0
      · exact ⟨e, e1, e2, e3.imp id (grow _ _ _ _)⟩
def noEdge (ops : Array Oper) (x p : Nat) : Bool := match ops[x]? with
  | some o => o.after.all fun e => !Region.binds .any e || e.on != p
  | none => false
/-- An order in which a region may be walked: `effs` are the operations that change something. -/
def isAl (ops : Array Oper) (i : Nat) : Bool := match ops[i]? with
  | some o => (match o.op with | .alloc _ => o.guard.isNone | _ => false)
  | none => false
def pairsOk (ops : Array Oper) (an effs : List Nat) : List Nat → Bool
  | [] => true
  | x :: c => (noEdge ops x x && pairsOk ops an effs c) && c.all fun p => !lt an p x && noEdge ops x p && (lt an x p || ((!effs.contains x && !isAl ops x || isAl ops p) && (match ops[x]?, ops[p]? with | some ox, some op => Oper.apart ops ox op | _, _ => false)))
def orderOk (ops : Array Oper) (effs c : List Nat) : Bool :=
  decide c.Nodup && (ops.all fun o => o.after.all fun e => !Region.binds .any e || decide (e.on < ops.size)) && c.all (· < ops.size) && (List.range ops.size).all (c.contains ·) && pairsOk ops (ancsOf ops.toList []) effs c
def drawMd (ops : Array Oper) (effs : List Nat) : Md := ⟨fun i => !effs.contains i && !isAl ops i, fun i => effs.contains i && !isAl ops i, fun i => isAl ops i, fun i j => !lt (ancsOf ops.toList []) i j⟩
def seqMd : Md := ⟨fun _ => true, fun _ => true, fun _ => false, fun _ _ => false⟩
theorem pairsOk_mem {an effs : List Nat} : ∀ {c : List Nat}, pairsOk ops an effs c = true → ∀ {c1 : List Nat} {p : Nat} {c2 : List Nat}, c = c1 ++ p :: c2 → (∀ x, x ∈ c1 → lt an p x = false ∧ (lt an x p = true ∨ ((effs.contains x = false ∧ isAl ops x = false ∨ isAl ops p = true) ∧ ∀ ox op, ops[x]? = some ox → ops[p]? = some op → Oper.apart ops ox op = true))) ∧ (∀ x, x ∈ c2 → lt an x p = false ∧ noEdge ops p x = true) ∧ pairsOk ops an effs (c1 ++ c2) = true ∧ noEdge ops p p = true
  | [], _, c1, p, c2, h => by simp at h
  | x :: c, hp, c1, p, c2, h => by
    rw [pairsOk, Bool.and_eq_true, Bool.and_eq_true, List.all_eq_true] at hp
    obtain ⟨⟨h0, h1⟩, h2⟩ := hp
    cases c1 with
    | nil =>
      simp only [List.nil_append, List.cons.injEq] at h
      obtain ⟨rfl, rfl⟩ := h
      exact ⟨(fun y hy => by cases hy), (fun y hy => by have := h2 y hy; simp only [Bool.and_eq_true, Bool.not_eq_true'] at this; exact ⟨this.1.1, this.1.2⟩), h1, h0⟩
    | cons y c1 =>
      simp only [List.cons_append, List.cons.injEq] at h
      obtain ⟨rfl, rfl⟩ := h
      obtain ⟨k1, k2, k3, k4⟩ := pairsOk_mem h1 (c1 := c1) (p := p) (c2 := c2) rfl
      refine ⟨fun z hz => ?_, k2, ?_, k4⟩
      · rcases List.mem_cons.1 hz with rfl | hz
        · have := h2 p (by simp)
          simp only [Bool.and_eq_true, Bool.or_eq_true, Bool.not_eq_true'] at this
          refine ⟨this.1.1, this.2.imp id fun ⟨a, b⟩ => ⟨a, fun ox op e1 e2 => by rw [e1, e2] at b; exact b⟩⟩
        · exact k1 z hz
      · rw [List.cons_append, pairsOk, Bool.and_eq_true, Bool.and_eq_true, List.all_eq_true]
        refine ⟨⟨h0, k3⟩, fun z hz => h2 z ?_⟩
        simp only [List.mem_append, List.mem_cons] at hz ⊢
        rcases hz with hz | hz
        · exact .inl hz
        · exact .inr (.inr hz)
end
end Go.Dp
/- Deep values: regions that draw their order, by one walk. Conditions: none. -/
namespace Go.Dp
open Go.RowKit
set_option linter.unusedVariables false
section
variable {P : Program} {I : World → Prop} {N : Nat} {ops : Array Oper} {md : Md} {Q : Exit → Env → List Rs → Prop}
theorem Wn.wanted {g : Gh} {w : World} {a : Act} {env : Env} {o : Oper} {b : Bool} (h : Wn ops env o b) (hE : EnvR g w N a env) : Region.wanted o (yielded ops a.tmps) = b := by
  cases h with
  | none h => simp [Region.wanted, h]
  | some j want oj d t h hj hd hv =>
    simp only [Region.wanted, h, yield_of hE hj hd hv]
    cases t <;> cases want <;> rfl
  | off j want oj d v h hj hd hv hn =>
    have h1 := hE.val d
    rw [hv] at h1
    have h2 : a.tmps.getD d undef = v := h1.bool
    simp only [Region.wanted, h, yielded, hj, hd, Option.bind_some]
    rw [Array.getD_eq_getD_getElem?] at h2
    cases he : a.tmps[d]? with
    | none => simp
    | some u =>
      rw [he, Option.getD_some] at h2
      subst h2
      cases u with
      | bool b =>
        dsimp only
        cases b <;> cases want <;> first | rfl | exact absurd rfl hn
      | _ => rfl
theorem upon_mono {o : Oper} {a : Act} {K K' : Act → World → Prop} {q q' : Exit → Act → World → Prop} (h : ∀ a w, K a w → K' a w) (hq : ∀ c a w, q (.panic c) a w → q' (.panic c) a w) (ho : ∀ a w, ¬ q .outgrown a w) {r : Result Next} (hh : o.upon P a K q r) : o.upon P a K' q' r := by
  cases r with
  | ok n w' =>
    cases n <;> simp only [Oper.upon] at hh ⊢ <;>
      first
      | exact h _ _ hh
      | exact Calls.mono hh (fun e w'' he => by cases e <;> first | exact h _ _ he | exact hq _ _ _ he | (obtain ⟨a, w, he⟩ := he; exact absurd he (ho a w)))
      | exact Rows.mono hh (fun _ _ he => h _ _ he)
  | halt x w' => cases x <;> simp only [Oper.upon] at hh ⊢ <;> first | exact hq _ _ _ hh | exact hh
/-- The first operation of a walk, made. -/
theorem Der.first {H : List (Nat × Option Rs)} {p : Nat} {c : List Nat} {env : Env} {σ : List Rs} (h : Der P I N ops md Q H (p :: c) env σ) {w0 gz : _} {wz w : World} {g : Gh} {a : Act} {fr : List Rs} (hI : I w0) (hx : Ext gz wz g w) (hR : Rel w0 g (σ ++ fr) w) (hE : EnvR g w N a env)
    {K : Act → World → Prop} (hK : ∀ H' env' σ' g' a' w', Der P I N ops md Q H' c env' σ' → Ext gz wz g' w' → Rel w0 g' (σ' ++ fr) w' → EnvR g' w' N a' env' → K a' w') : wpOp P ops (Lift w0 gz wz N fr Q) p K a w := by
  unfold wpOp
  cases h with
  | skip _ _ _ o _ _ ho hd hw hm k =>
    rw [ho]
    dsimp only
    rw [if_neg (by rw [hw.wanted hE]; simp)]
    exact hK _ _ _ g _ w k hx hR (hE.put hd (.sc _))
  | rd _ _ _ o _ _ r v ho hd hw hs hr hm k =>
    rw [ho]
    dsimp only
    rw [if_pos (hw.wanted hE)]
    refine .inl (upon_mono (fun a' w' => ?_) (fun c a w hf => hf.elim) (fun a w hf => hf) (hs.run w0 g a w (σ ++ fr) hI hR (fun x hx => List.mem_append_left _ (hr x hx)) (hE.ops o)))
    rintro ⟨g', u, rfl, h2, h3, h4⟩
    exact hK _ _ _ g' _ w' k (hx.trans h2) h3 ((hE.mono h2).put hd h4)
  | ef _ _ _ o _ _ τ σ1 R RP ho hd hw hs hσ hk hm k1 k2 =>
    rw [ho]
    dsimp only
    rw [if_pos (hw.wanted hE)]
    have hR' : Rel w0 g (τ ++ (σ1 ++ fr)) w := by
      rw [← List.append_assoc]
      exact hR.perm (hσ.append_right fr)
    refine .inl (upon_mono (fun a' w' => ?_) (fun c a' w' => ?_) (fun a w hf => ?_) (hs.run w0 g a w (σ1 ++ fr) hI hR' (hE.ops o)))
    · rintro ⟨g', τ', x, u, rfl, h2, h3, h4, h5⟩
      exact hK _ _ _ g' _ w' (k1 x τ' h5) (hx.trans h2) (by rw [List.append_assoc]; exact h3) ((hE.mono h2).put hd h4)
    · rintro ⟨c', g', τ', e1, rfl, h2, h3, h5⟩
      cases e1
      obtain ⟨σ2, dr, m1, m2⟩ := k2 c τ' h5
      have h3' : Rel w0 g' ((τ' ++ σ1) ++ fr) w' := by rw [List.append_assoc]; exact h3
      exact ⟨g', env, σ2, hx.trans h2, h3'.drop m1, hE.mono h2, m2 env⟩
    · obtain ⟨c', g', τ', e1, _⟩ := hf
      cases e1
  | al _ _ _ o e _ _ ho he hd hg hs hm k =>
    rw [ho]
    dsimp only
    rw [if_pos ((Wn.none (ops := ops) (env := env) hg).wanted hE)]
    refine .inl (upon_mono (fun a' w' => ?_) (fun c a' w' => ?_) (fun a w hf => ?_) ((hs env).run w0 g a w (σ ++ fr) hI hR (hE.ops o)))
    · rintro ⟨g', τ', x, u, rfl, h2, h3, h4, b, rfl, rfl⟩
      exact hK _ _ _ g' _ w' (k b) (hx.trans h2) h3 ((hE.mono h2).put hd h4)
    · rintro ⟨c', g', τ', e1, rfl, h2, h3, h5⟩
      exact h5.elim
    · obtain ⟨c', g', τ', e1, _⟩ := hf
      cases e1
/-- A region in the order of its text. -/
theorem der_seq : ∀ (c : List Nat) {H : List (Nat × Option Rs)} {env : Env} {σ : List Rs}, Der P I N ops seqMd Q H c env σ → ∀ {w0 gz : _} {wz w : World} {g : Gh} {a : Act} {fr : List Rs}, I w0 → Ext gz wz g w → Rel w0 g (σ ++ fr) w → EnvR g w N a env → wpOps P ops (Lift w0 gz wz N fr Q) c a w
  | [], H, env, σ, h, w0, gz, wz, w, g, a, fr, hI, hx, hR, hE => by
    cases h with
    | nil _ _ _ σ' hσ h => exact ⟨g, env, σ', hx, hR.perm (hσ.append_right fr), hE, h env fun _ => rfl⟩
  | p :: c, H, env, σ, h, w0, gz, wz, w, g, a, fr, hI, hx, hR, hE => by
    rw [wpOps_cons]
    exact h.first hI hx hR hE fun H' env' σ' g' a' w' hd h1 h2 h3 => der_seq c hd hI h1 h2 h3
theorem aw_seqr {id : Nat} {env : Env} {σ : List Rs} (h : Der P I N ops seqMd Q [] (List.range ops.size) env σ) : AW P I N (.region id ops false) Q env σ :=
  ⟨fun w0 gz wz g a w fr hI hx hR hE => wp_region (der_seq _ h hI hx hR hE)⟩
theorem ready_iff {listed : Array Bool} {i : Nat} : i ∈ Region.ready .any ops listed ↔ i < ops.size ∧ listed.getD i true = false ∧ ∃ o, ops[i]? = some o ∧ ∀ e, e ∈ o.after.toList → Region.binds .any e = true → listed.getD e.on false = true := by
  unfold Region.ready
  rw [List.mem_filter, List.mem_range]
  constructor
  · rintro ⟨h1, h2⟩
    rw [Bool.and_eq_true] at h2
    refine ⟨h1, by simpa using h2.1, ?_⟩
    cases ho : ops[i]? with
    | none => rw [ho] at h2; simp at h2
    | some o =>
      refine ⟨o, rfl, fun e he hb => ?_⟩
      have := h2.2
      rw [ho] at this
      simp only [Option.map_some, Option.getD_some, Array.all_eq_true_iff_forall_mem] at this
      have := this e (by simpa using he)
      rw [hb] at this
      simpa using this
  · rintro ⟨h1, h2, o, ho, h3⟩
    refine ⟨h1, ?_⟩
    rw [Bool.and_eq_true]
    refine ⟨by simp [h2], ?_⟩
    rw [ho]
    simp only [Option.map_some, Option.getD_some, Array.all_eq_true_iff_forall_mem]
    intro e he
    cases hb : Region.binds .any e with
    | false => rfl
    | true => simpa using h3 e (by simpa using he) hb
theorem getD_set {l : Array Bool} {p i : Nat} {d : Bool} (hp : p < l.size) : (l.setIfInBounds p true).getD i d = if p = i then true else l.getD i d := by
  simp only [Array.getD_eq_getD_getElem?]
  by_cases e : p = i
  · subst e; simp [hp]
  · rw [Array.getElem?_setIfInBounds_ne e, if_neg e]
theorem der_any (effs : List Nat) (hal : ∀ (i : Nat) (o : Oper) (e : TypeId), ops[i]? = some o → o.op = .alloc e → dstOk N o.dst = true ∧ AllocOk P I o e) (hed : ∀ (i : Nat) (o : Oper), ops[i]? = some o → ∀ e : Edge, e ∈ o.after.toList → Region.binds .any e = true → e.on < ops.size) : ∀ (n : Nat) (c : List Nat) {H : List (Nat × Option Rs)} {env : Env} {σ : List Rs} {listed : Array Bool}, c.length = n → c.Nodup → pairsOk ops (ancsOf ops.toList []) effs c = true → (∀ i, i ∈ c → i < ops.size) → listed.size = ops.size →
    (∀ i, i < ops.size → (listed.getD i true = false ↔ i ∈ c)) → (∀ i j, i < ops.size → listed.getD i true = true → lt (ancsOf ops.toList []) j i = true → listed.getD j false = true) →
    Der P I N ops (drawMd ops effs) Q H c env σ → ∀ {w0 gz : _} {wz w : World} {g : Gh} {a : Act} {fr : List Rs}, I w0 → Ext gz wz g w → Rel w0 g (σ ++ fr) w → EnvR g w N a env → wpAny P .any ops (Lift w0 gz wz N fr Q) n listed a w := by
  have spec : ∀ (i : Nat) (o : Oper) (j : Nat), ops[i]? = some o → lt (ancsOf ops.toList []) j i = true → ∃ e, e ∈ o.after.toList ∧ Region.binds .any e = true ∧ (e.on = j ∨ lt (ancsOf ops.toList []) j e.on = true) := fun i o j ho hj =>
    anc_spec ops.toList [] [] rfl (fun i o j h => by simp at h) i o j (by simpa using ho) hj
  intro n
  induction n with
  | zero =>
    intro c H env σ listed hl hnd hp hc hs hun hcl h w0 gz wz w g a fr hI hx hR hE
    have : c = [] := List.eq_nil_of_length_eq_zero hl
    subst this
    refine ⟨List.eq_nil_iff_forall_not_mem.2 fun i hi => ?_, ?_⟩
    · obtain ⟨h1, h2, _⟩ := ready_iff.1 hi
      have := (hun i h1).1 h2
      cases this
    · cases h with
      | nil _ _ _ σ' hσ h => exact ⟨g, env, σ', hx, hR.perm (hσ.append_right fr), hE, h env fun _ => rfl⟩
  | succ n ih =>
    intro c H env σ listed hl hnd hp hc hs hun hcl h w0 gz wz w g a fr hI hx hR hE
    have tf : ∀ i, i < ops.size → listed.getD i false = listed.getD i true := fun i hi => by
      simp only [Array.getD_eq_getD_getElem?, Array.getElem?_eq_getElem (show i < listed.size by omega), Option.getD_some]
    refine ⟨fun hr => ?_, fun p hpr => ?_⟩
    · exfalso
      cases c with
      | nil => simp at hl
      | cons x c =>
        have hxs := hc x (List.mem_cons_self ..)
        have hox : ops[x]? = some ops[x] := Array.getElem?_eq_getElem hxs
        have hrd : x ∈ Region.ready .any ops listed := by
          refine ready_iff.2 ⟨hxs, (hun x hxs).2 (List.mem_cons_self ..), _, hox, fun e he hb => ?_⟩
          have hes := hed x _ hox e he hb
          cases hld : listed.getD e.on false with
          | true => rfl
          | false =>
            rw [tf _ hes] at hld
            have hmem := (hun _ hes).1 hld
            rcases List.mem_cons.1 hmem with e1 | hmem
            · -- an edge to itself: then it stands ahead of itself and is listed
              exfalso
              obtain ⟨_, _, _, this⟩ := pairsOk_mem hp (c1 := []) (p := x) (c2 := c) rfl
              unfold noEdge at this
              rw [hox] at this
              simp only [Array.all_eq_true_iff_forall_mem] at this
              have := this e (by simpa using he)
              rw [hb] at this
              simp [e1] at this
            · obtain ⟨_, k2, _⟩ := pairsOk_mem hp (c1 := []) (p := x) (c2 := c) rfl
              have := (k2 _ hmem).2
              unfold noEdge at this
              rw [hox] at this
              simp only [Array.all_eq_true_iff_forall_mem] at this
              have := this e (by simpa using he)
              rw [hb] at this
              simp at this
        rw [hr] at hrd
        cases hrd
    · obtain ⟨p1, p2, o, ho, p3⟩ := ready_iff.1 hpr
      have hpc := (hun p p1).1 p2
      obtain ⟨c1, c2, rfl⟩ := List.append_of_mem hpc
      obtain ⟨k1, k2, k3, _⟩ := pairsOk_mem hp (c1 := c1) (p := p) (c2 := c2) rfl
      -- what stands ahead of p is listed
      have hanc : ∀ j, lt (ancsOf ops.toList []) j p = true → listed.getD j false = true := by
        intro j hj
        obtain ⟨e, e1, e2, e3⟩ := spec p o j ho hj
        have he := p3 e e1 e2
        rcases e3 with e3 | e3
        · rw [← e3]; exact he
        · have hes := hed p o ho e e1 e2
          exact hcl e.on j hes (by rw [← tf _ hes]; exact he) e3
      have hb := Der.bubble c1 h (fun x hx1 => by
        have hxs := hc x (List.mem_append_left _ hx1)
        have hxu : lt (ancsOf ops.toList []) x p = false := by
          cases hlt : lt (ancsOf ops.toList []) x p with
          | false => rfl
          | true =>
            have h1 := hanc x hlt
            rw [tf _ hxs] at h1
            have h2 := (hun x hxs).2 (List.mem_append_left _ hx1)
            rw [h1] at h2; cases h2
        obtain ⟨_, h2⟩ := k1 x hx1
        rw [hxu] at h2
        rcases h2 with h2 | ⟨h2, h3⟩
        · cases h2
        · refine ⟨h2.imp (fun ⟨m1, m2⟩ => ⟨by show (effs.contains x && !isAl ops x) = false; rw [m1]; rfl, m2⟩) (fun m => ?_), by show (!lt _ x p) = true; rw [hxu]; rfl, h3⟩
          have m' := m
          unfold isAl at m'
          rw [ho] at m'
          dsimp only at m'
          split at m'
          · rename_i e he
            obtain ⟨n1, n2⟩ := hal p o e ho he
            exact ⟨m, by show (effs.contains p && !isAl ops p) = false; rw [m]; simp, by show (!effs.contains p && !isAl ops p) = false; rw [m]; simp, o, e, ho, he, by simpa using m', n1, n2⟩
          · cases m')
      have hnd' := hnd
      rw [List.nodup_append] at hnd'
      obtain ⟨n1, n2, n3⟩ := hnd'
      have hpn : p ∉ c1 ++ c2 := by
        rw [List.mem_append]
        rintro (hh | hh)
        · exact n3 p hh p (List.mem_cons_self ..) rfl
        · exact (List.nodup_cons.1 n2).1 hh
      refine Der.first (H := H) (c := c1 ++ c2) hb hI hx hR hE fun H' env' σ' g' a' w' hd' x1 x2 x3 => ?_
      refine ih (c1 ++ c2) (by simp at hl ⊢; omega) ?_ k3 (fun i hi => hc i ?_) (by simp [hs]) (fun i hi => ?_) (fun i j hi hli hlt => ?_) hd' hI x1 x2 x3
      · exact List.Sublist.nodup (List.Sublist.append_left (List.sublist_cons_self p c2) c1) hnd
      · simp only [List.mem_append, List.mem_cons] at hi ⊢
        exact hi.imp id .inr
      · rw [getD_set (by omega)]
        by_cases e : p = i
        · subst e
          rw [if_pos rfl]
          exact ⟨(fun h => by cases h), fun h => absurd h hpn⟩
        · rw [if_neg e, hun i hi]
          simp only [List.mem_append, List.mem_cons]
          constructor
          · rintro (h | h | h)
            · exact .inl h
            · exact absurd h.symm e
            · exact .inr h
          · rintro (h | h)
            · exact .inl h
            · exact .inr (.inr h)
      · rw [getD_set (by omega)] at hli ⊢
        by_cases e : p = i
        · subst e
          by_cases e2 : p = j
          · rw [if_pos e2]
          · rw [if_neg e2]; exact hanc j hlt
        · rw [if_neg e] at hli
          by_cases e2 : p = j
          · rw [if_pos e2]
          · rw [if_neg e2]; exact hcl i j hi hli hlt
/-- A region that draws its order, by one walk. -/
theorem aw_draw {id : Nat} {env : Env} {σ : List Rs} (c effs : List Nat) (hmix : P.follows .mixedOrders = true) (hal : ∀ (i : Nat) (o : Oper) (e : TypeId), ops[i]? = some o → o.op = .alloc e → dstOk N o.dst = true ∧ AllocOk P I o e) (hok : orderOk ops effs c = true) (h : Der P I N ops (drawMd ops effs) Q [] c env σ) : AW P I N (.region id ops true) Q env σ := by
  constructor
  intro w0 gz wz g a w fr hI hx hR hE
  obtain ⟨r1, r2⟩ := hR.drew
  have hok' := hok
  simp only [orderOk, Bool.and_eq_true, decide_eq_true_eq, List.all_eq_true, List.mem_range] at hok'
  obtain ⟨⟨⟨⟨h1, h2⟩, h3⟩, h4⟩, h5⟩ := hok'
  have hlen : c.length = ops.size := by
    have := (List.perm_ext_iff_of_nodup h1 (List.nodup_range (n := ops.size))).2 fun i => by
      rw [List.mem_range]
      exact ⟨fun hi => by simpa using h3 i hi, fun hi => by simpa using h4 i hi⟩
    simpa using this.length_eq
  refine wp_region_any hmix ?_
  rw [← hlen]
  refine der_any effs hal (fun i o ho e he hb => ?_) c.length c rfl h1 h5 (fun i hi => by simpa using h3 i hi) (by simp [hlen]) (fun i hi => ?_) (fun i j hi hli => ?_) h hI (hx.trans r1) r2 (hE.mono r1)
  · have := (Array.all_eq_true_iff_forall_mem.1 h2) o (Array.mem_of_getElem? ho)
    have := (Array.all_eq_true_iff_forall_mem.1 this) e (by simpa using he)
    rw [hb] at this
    simpa using this
  · rw [hlen]
    simp only [Array.getD_eq_getD_getElem?, Array.getElem?_replicate, if_pos hi, Option.getD_some, true_iff]
    simpa using h4 i hi
  · rw [hlen] at hli
    simp only [Array.getD_eq_getD_getElem?, Array.getElem?_replicate, if_pos hi, Option.getD_some] at hli
    cases hli
end
end Go.Dp
/- Deep values: the operations. Conditions: none. -/
namespace Go.Dp
open Go.RowKit
set_option linter.unusedVariables false
set_option linter.unusedSimpArgs false
section
variable {P : Program} {I : World → Prop}
theorem rd_val {o : Oper} {env : Env} {r : Option Rs} {v : AV} (h : ∀ w0 g a w fr, I w0 → Rel w0 g fr w → (∀ x, r = some x → x ∈ fr) → OpsR g w a env o → ∃ u g' w', (execOp a.eval o).run P w = .ok (.value u) w' ∧ Ext g w g' w' ∧ Rel w0 g' fr w' ∧ VR g' w' u v) : RdS P I o env r v := by
  constructor
  intro w0 g a w fr hI hR hr hE
  obtain ⟨u, g', w', h1, h2, h3, h4⟩ := h w0 g a w fr hI hR hr hE
  unfold Oper.wp
  rw [h1]
  exact ⟨g', u, rfl, h2, h3, h4⟩
theorem rd_pure {o : Oper} {env : Env} {v : AV} (h : ∀ g a w, OpsR g w a env o → ∃ u, (execOp a.eval o).run P w = .ok (.value u) w ∧ VR g w u v) : RdS P I o env none v :=
  rd_val fun w0 g a w fr hI hR hr hE => let ⟨u, h1, h2⟩ := h g a w hE; ⟨u, g, w, h1, Ext.refl g w, hR, h2⟩
theorem ef_val {o : Oper} {env : Env} {τ : List Rs} {R : AV → List Rs → Prop} (h : ∀ w0 g a w fr, I w0 → Rel w0 g (τ ++ fr) w → OpsR g w a env o → ∃ u g' w' x τ', (execOp a.eval o).run P w = .ok (.value u) w' ∧ Ext g w g' w' ∧ Rel w0 g' (τ' ++ fr) w' ∧ VR g' w' u x ∧ R x τ') : EfS P I o env τ R (fun _ _ => False) := by
  constructor
  intro w0 g a w fr hI hR hE
  obtain ⟨u, g', w', x, τ', h1, h2, h3, h4, h5⟩ := h w0 g a w fr hI hR hE
  unfold Oper.wp
  rw [h1]
  exact ⟨g', τ', x, u, rfl, h2, h3, h4, h5⟩
theorem ef_skip {o : Oper} {env : Env} {τ : List Rs} {R : AV → List Rs → Prop} (h : ∀ w0 g a w fr, I w0 → Rel w0 g (τ ++ fr) w → OpsR g w a env o → ∃ g' w' τ', (execOp a.eval o).run P w = .ok .skip w' ∧ Ext g w g' w' ∧ Rel w0 g' (τ' ++ fr) w' ∧ R .un τ') : EfS P I o env τ R (fun _ _ => False) := by
  constructor
  intro w0 g a w fr hI hR hE
  obtain ⟨g', w', τ', h1, h2, h3, h5⟩ := h w0 g a w fr hI hR hE
  unfold Oper.wp
  rw [h1]
  exact ⟨g', τ', .un, undef, rfl, h2, h3, .un _, h5⟩
theorem ef_enter {o : Oper} {env : Env} {f : FuncId} {args : List AV} {τ : List Rs} {R : Out → List Rs → Prop} (hs : Sim P I f args τ R) (h : ∀ g a w, OpsR g w a env o → ∃ vs, (execOp a.eval o).run P w = .ok (.enter f vs.toArray) w ∧ VRs g w vs args) :
    EfS P I o env τ (fun x τ' => R (.ret x) τ') (fun c τ' => R (.pan c) τ') := by
  constructor
  intro w0 g a w fr hI hR hE
  obtain ⟨vs, h1, h2⟩ := h g a w hE
  unfold Oper.wp
  rw [h1, Oper.upon_enter]
  refine (hs.2 w0 g w fr vs hI hR h2).mono ?_
  rintro e w' ⟨g', τ', o', h3, h4, h5, h6⟩
  cases e with
  | returned v =>
    cases o' with
    | ret x => exact ⟨g', τ', x, v, rfl, h3, h4, h5, h6⟩
    | pan c => exact h5.elim
  | panicked c =>
    cases o' with
    | ret x => exact h5.elim
    | pan d =>
      have e : c = d := h5
      subst e
      exact ⟨c, g', τ', rfl, rfl, h3, h4, h6⟩
  | outgrown => cases o' <;> exact h5.elim
theorem rd_enter {o : Oper} {env : Env} {f : FuncId} {args : List AV} {r : Option Rs} {v : AV} (hs : Sim P I f args r.toList (fun o τ' => o = .ret v ∧ τ' = r.toList)) (h : ∀ g a w, OpsR g w a env o → ∃ vs, (execOp a.eval o).run P w = .ok (.enter f vs.toArray) w ∧ VRs g w vs args) : RdS P I o env r v := by
  constructor
  intro w0 g a w fr hI hR hr hE
  obtain ⟨vs, h1, h2⟩ := h g a w hE
  have hp : ∃ fr1, fr.Perm (r.toList ++ fr1) := by
    cases r with
    | none => exact ⟨fr, List.Perm.refl _⟩
    | some x =>
      obtain ⟨s, t, e⟩ := List.append_of_mem (hr x rfl)
      exact ⟨s ++ t, by rw [e]; exact List.perm_middle⟩
  obtain ⟨fr1, hp⟩ := hp
  unfold Oper.wp
  rw [h1, Oper.upon_enter]
  refine (hs.2 w0 g w fr1 vs hI (hR.perm hp) h2).mono ?_
  rintro e w' ⟨g', τ', o', h3, h4, h5, rfl, rfl⟩
  cases e with
  | returned u => exact ⟨g', u, rfl, h3, h4.perm hp.symm, h5⟩
  | panicked c => exact h5.elim
  | outgrown => exact h5.elim
/-- Cells set one by one are a row set once. -/
theorem setCells_row (g : Nat) (t : TypeId) (fz : Nat × Nat) : ∀ (vs : List Value) (o : Nat) (cur : Array Value) (w : World), w.heap[g]? = some (.cells cur t fz) → o + vs.length ≤ cur.size →
    w.setCells g o vs = w.setRow g (cur.toList.take o ++ vs ++ cur.toList.drop (o + vs.length)).toArray
  | [], o, cur, w, hg, _ => by
    simp only [List.append_nil, List.length_nil, Nat.add_zero, List.take_append_drop, Array.toArray_toList]
    rw [setRow_self w g cur t fz hg]
    rfl
  | v :: r, o, cur, w, hg, hl => by
    simp only [List.length_cons] at hl
    show (w.setCell ⟨g, o, none⟩ v).setCells g (o + 1) r = _
    rw [setCell_eq_setRow w g o cur t fz v hg, setCells_row g t fz r (o + 1) (cur.setIfInBounds o v) _ (setRow_heap w g cur _ t _ hg) (by simp; omega), setRow_setRow]
    have e := list_seg_step cur.toList o v r (by simp; omega)
    congr 2
    simpa [Array.toList_setIfInBounds, Nat.add_assoc] using e
/-- Cells are stored where none shares its bytes with a text. -/
theorem run_storeCells_thaw (P : Program) (g o : Nat) (t : TypeId) (fz : Nat × Nat) (vs : List Value) (cur : Array Value) (w : World) (hg : w.heap[g]? = some (.cells cur t fz)) (hz : Thaw fz cur.size) (hl : o + vs.length ≤ cur.size) (h1 : ∀ v ∈ vs, v.oneCell' = true) :
    (storeCells ⟨g, o, none⟩ vs 0).run P w = .ok () (w.setRow g (cur.toList.take o ++ vs ++ cur.toList.drop (o + vs.length)).toArray) := by
  have := run_storeCells_cells (P := P) g o vs 0 w (fun j hj => by
      rw [Nat.add_zero, cell_of_row w g (o + j) cur t fz hg, Array.getElem?_eq_getElem (by omega)]; rfl)
    (fun j hj => by
      have := hz (o + 0 + j) (by omega)
      obtain ⟨a, b⟩ := fz
      simp only [World.frozen?, hg, Bool.and_eq_false_iff, decide_eq_false_iff_not]
      simp only at this
      omega) h1
  rw [this, Nat.add_zero, setCells_row g t fz vs o cur w hg hl]
theorem box_in {w0 w : World} {g : Gh} {fr : List Rs} {b : Nat} {cs : List AV} {te : TypeId} (hR : Rel w0 g fr w) (hb : Rs.box b cs te ∈ fr) :
    ∃ (vs : Array Value) (fz : Nat × Nat), w.heap[b]? = some (.cells vs te fz) ∧ Thaw fz vs.size ∧ VRs g w vs.toList cs ∧ ∀ x, x ∈ cs → x.one = true ∨ x = .un := (hR.ok _ hb).2.1
end
def ones (l : List AV) : Bool := l.all AV.one
theorem ones_mem {l : List AV} (h : ones l = true) : ∀ y, y ∈ l → y.one = true := List.all_eq_true.1 h
theorem one_int (k : IntKind) (n : Int) : (AV.sc (.int k n)).one = true := rfl
theorem one_bool (b : Bool) : (AV.sc (.bool b)).one = true := rfl
theorem one_str (s : ByteArray) : (AV.sc (.string s)).one = true := rfl
theorem one_ptr (a : Option Addr) : (AV.sc (.pointer a)).one = true := rfl
theorem one_slice (a : Option Addr) (n c : Nat) : (AV.sc (.slice a n c)).one = true := rfl
theorem one_sl (es : Nat) (rs : List AV) : (AV.sl es rs).one = true := rfl
theorem one_os (k es : Nat) (rs : List AV) : (AV.os k es rs).one = true := rfl
def AV.single : AV → Bool
  | .ag _ => false
  | .sc (.agg _) => false
  | _ => true
theorem AV.single_cells {y : AV} (h : y.single = true) : y.cells = [y] := by
  cases y with
  | ag cs => cases h
  | sc v => cases v <;> first | rfl | cases h
  | _ => rfl
/-! ### The types that a program names -/
inductive Sh where
  | st (fs : List (Nat × Nat × Option Bool))
  | arr (n e : Nat)
  | sl (e : TypeId)
  | mp (k e : TypeId)
  | int (k : IntKind)
  | bool | str | ifc | fn | other
  | ptr (e : TypeId)
  deriving DecidableEq
def isAggD : TypeDesc → Bool
  | .struct _ | .array _ _ => true
  | _ => false
def shOf (P : Program) : TypeDesc → Sh
  | .struct fs => .st (fs.toList.map fun f => (f.offset, P.cellsOf f.type, (P.underlying f.type).map isAggD))
  | .array n e => .arr n e
  | .slice e => .sl e
  | .map k e => .mp k e
  | .int k => .int k
  | .bool => .bool
  | .string => .str
  | .interface _ => .ifc
  | .func _ _ _ => .fn
  | .pointer e => .ptr e
  | _ => .other
def Sh.isIfc : Sh → Bool
  | .ifc => true
  | _ => false
def Sh.agg : Sh → Bool
  | .st _ | .arr _ _ => true
  | _ => false
structure Ty where
  sh : Sh
  size : Nat
  bytes : Nat
  zero : Value
  zl : List AV
structure Ty.Ok (P : Program) (t : TypeId) (T : Ty) : Prop where
  sh : (P.underlying t).map (shOf P) = some T.sh
  info : (P.info? t).map (fun i => (i.zero, i.size, i.bytes)) = some (some T.zero, T.size, T.bytes)
  zl : T.zero.cells.toList.map AV.sc = T.zl
class Tys (P : Program) where
  tab : List (Nat × Ty)
  ok : ∀ p, p ∈ tab → Ty.Ok P p.1 p.2
  mix : P.follows .mixedOrders = true
def lookTy : List (Nat × Ty) → Nat → Option Ty
  | [], _ => none
  | (k, v) :: l, t => bif Nat.beq k t then some v else lookTy l t
theorem lookTy_mem : ∀ {l : List (Nat × Ty)} {t : Nat} {T : Ty}, lookTy l t = some T → (t, T) ∈ l
  | (k, v) :: l, t, T, h => by
    unfold lookTy at h
    cases e : Nat.beq k t with
    | true =>
      rw [e, cond_true] at h
      cases h
      rw [Nat.eq_of_beq_eq_true e]
      exact List.mem_cons_self ..
    | false =>
      rw [e, cond_false] at h
      exact List.mem_cons_of_mem _ (lookTy_mem h)
section
variable {P : Program} [Tys P]
def ty (P : Program) [Tys P] (t : TypeId) : Option Ty := lookTy (Tys.tab P) t
theorem ty_ok {t : TypeId} {T : Ty} (h : ty P t = some T) : Ty.Ok P t T := Tys.ok _ (lookTy_mem h)
omit [Tys P] in
theorem Ty.Ok.get {t : TypeId} {T : Ty} (h : Ty.Ok P t T) : ∃ d i, P.underlying t = some d ∧ shOf P d = T.sh ∧ P.info? t = some i ∧ i.zero = some T.zero ∧ i.size = T.size ∧ i.bytes = T.bytes := by
  obtain ⟨h1, h2, _⟩ := h
  cases hu : P.underlying t with
  | none => rw [hu] at h1; cases h1
  | some d =>
    cases hi : P.info? t with
    | none => rw [hi] at h2; cases h2
    | some i =>
      rw [hu] at h1
      rw [hi] at h2
      injection h1 with h1
      injection h2 with h2
      injection h2 with a b
      injection b with b c
      exact ⟨d, i, rfl, h1, rfl, a, b, c⟩
omit [Tys P] in
theorem agg_of {d : TypeDesc} {T : Ty} (h : shOf P d = T.sh) : isAggD d = T.sh.agg := by rw [← h]; cases d <;> rfl
omit [Tys P] in
theorem run_isAgg (w : World) {t : TypeId} {d : TypeDesc} (h : P.underlying t = some d) : (isAgg t).run P w = .ok (isAggD d) w := by
  simp [isAgg, run_underlying h]
  cases d <;> rfl
omit [Tys P] in
theorem run_size (w : World) {t : TypeId} {i : TypeInfo} (h : P.info? t = some i) : (sizeOf t).run P w = .ok i.size w := by simp [sizeOf, typeInfo, h]
omit [Tys P] in
theorem run_zero (w : World) {t : TypeId} {i : TypeInfo} {z : Value} (h : P.info? t = some i) (hz : i.zero = some z) : (zeroValue t).run P w = .ok z w := by simp [zeroValue, typeInfo, h, hz]
/-! ### Cells of values -/
theorem VR.cells {g : Gh} {w : World} {v : Value} {x : AV} (h : VR g w v x) (h1 : ∀ y, y ∈ x.cells → y.one = true) : VRs g w v.cells.toList x.cells ∧ ∀ u, u ∈ v.cells.toList → u.oneCell' = true := by
  have one : ∀ (u : Value) (y : AV), VR g w u y → y.one = true → VRs g w [u] [y] := fun u y hu _ => VRs.cons hu (VRs.nil g w)
  have key : ∀ (us : List Value) (ys : List AV), VRs g w us ys → (∀ y, y ∈ ys → y.one = true) → ∀ u, u ∈ us → u.oneCell' = true := by
    intro us ys hus hys u hu
    obtain ⟨n, hn, rfl⟩ := List.getElem_of_mem hu
    have hn' : n < ys.length := by rw [← hus.1]; exact hn
    exact (hus.2 n _ _ (List.getElem?_eq_getElem hn) (List.getElem?_eq_getElem hn')).oneCell (hys _ (List.getElem_mem hn'))
  have main : VRs g w v.cells.toList x.cells := by
    cases h with
    | ag xs cs hl h h3 => exact ⟨by simpa [Value.cells, AV.cells] using hl, fun i u y hu hy => h i u y (by simpa [Value.cells] using hu) hy⟩
    | sc v =>
      refine ⟨by simp [AV.cells], fun i u y hu hy => ?_⟩
      simp only [AV.cells, List.getElem?_map, hu, Option.map_some, Option.some.injEq] at hy
      subst hy
      exact .sc u
    | un v => exact absurd (h1 .un (by simp [AV.cells])) (by simp [AV.one])
    | tu xs cs hl h => exact absurd (h1 (.tu cs) (by simp [AV.cells])) (by simp [AV.one])
    | nl es a c hc => exact VRs.cons (.nl es a c hc) (VRs.nil g w)
    | sl b o len cap es rs vs a1 a2 a3 a4 a5 a6 => exact VRs.cons (.sl b o len cap es rs vs a1 a2 a3 a4 a5 a6) (VRs.nil g w)
    | os v k es rs h a1 a2 a3 =>
      have : v.cells.toList = [v] := by cases h <;> rfl
      rw [this]
      exact VRs.cons (.os v k es rs h a1 a2 a3) (VRs.nil g w)
    | ep b o cs vs a1 a2 a3 => exact VRs.cons (.ep b o cs vs a1 a2 a3) (VRs.nil g w)
    | fn f first captured fs cs a1 a2 a3 a4 => exact VRs.cons (.fn f first captured fs cs a1 a2 a3 a4) (VRs.nil g w)
    | ic t v x a1 => exact VRs.cons (.ic t v x a1) (VRs.nil g w)
  exact ⟨main, key _ _ main h1⟩
theorem VRs.take {g : Gh} {w : World} {vs : List Value} {xs : List AV} (h : VRs g w vs xs) (n : Nat) : VRs g w (vs.take n) (xs.take n) := by
  refine ⟨by simp [h.1], fun i v x hv hx => ?_⟩
  rw [List.getElem?_take] at hv hx
  split at hv
  · exact h.2 i v x hv (by rwa [if_pos (by assumption)] at hx)
  · cases hv
theorem VRs.drop {g : Gh} {w : World} {vs : List Value} {xs : List AV} (h : VRs g w vs xs) (n : Nat) : VRs g w (vs.drop n) (xs.drop n) := by
  refine ⟨by simp [h.1], fun i v x hv hx => ?_⟩
  rw [List.getElem?_drop] at hv hx
  exact h.2 _ v x hv hx
theorem VRs.agg {g : Gh} {w : World} {vs : List Value} {xs : List AV} (h : VRs g w vs xs) (h1 : ∀ y, y ∈ xs → y.one = true) : VR g w (.agg vs.toArray) (.ag xs) :=
  .ag _ _ (by simpa using h.1) (fun i x y hx hy => h.2 i x y (by simpa using hx) hy) h1
theorem VRs.tup {g : Gh} {w : World} {vs : List Value} {xs : List AV} (h : VRs g w vs xs) : VR g w (.tuple vs.toArray) (.tu xs) :=
  .tu _ _ (by simpa using h.1) (fun i x y hx hy => h.2 i x y (by simpa using hx) hy)
/-- Cells put over others. -/
def over (cs : List AV) (o : Nat) (new : List AV) : List AV := cs.take o ++ new ++ cs.drop (o + new.length)
end
section
variable {P : Program} {I : World → Prop} {env : Env} {σ : List Rs} {d : Option Tmp} {tt : TypeId} {ps : String} {af : Array Edge} {gd : Option (Nat × Bool)}
theorem rd_move {x : Operand} : RdS P I ⟨d, .move x, tt, ps, af, gd⟩ env none (env.val x) :=
  rd_pure (fun g a w hE => ⟨a.eval x, by simp [execOp], hE x (by simp [Op.operands, Call.operands])⟩)
theorem rd_assign {x : Operand} : RdS P I ⟨d, .assign x, tt, ps, af, gd⟩ env none (env.val x) :=
  rd_pure (fun g a w hE => ⟨a.eval x, by simp [execOp], hE x (by simp [Op.operands, Call.operands])⟩)
theorem loadAgg {w : World} {b o : Nat} {vs : Array Value} {te t : TypeId} {n : Nat} {ds : TypeDesc} {i : TypeInfo} {fz : Nat × Nat} (h1 : w.heap[b]? = some (.cells vs te fz)) (hu : P.underlying t = some ds) (ha : isAggD ds = true) (hi : P.info? t = some i) (hn : i.size = n)
    (hl : o + n ≤ vs.size) : (loadVar t ⟨b, o, none⟩).run P w = .ok (.agg ((vs.toList.drop o).take n).toArray) w := by
  have hlen : ((vs.toList.drop o).take n).length = n := by simp; omega
  have := run_loadCells_list (P := P) w ⟨b, o, none⟩ ((vs.toList.drop o).take n) (fun j v hv => by
    rw [add_addr, cell_of_row w b (o + j) vs te fz h1]
    rw [List.getElem?_take] at hv
    split at hv
    · rw [List.getElem?_drop] at hv; simpa using hv
    · cases hv)
  rw [hlen] at this
  simp only [loadVar, Sem.run_bind, run_isAgg w hu, ha, Result.andThen_ok, if_true, run_size w hi, hn, this, Sem.run_pure]
/-- A cell, or cells, that stay. -/
theorem ep_at {g : Gh} {w : World} {v : Value} {cs : List AV} (h : VR g w v (.ep cs)) : ∃ b o vs, v = .pointer (some ⟨b, o, none⟩) ∧ VRs g w vs cs ∧ ∀ j v, vs[j]? = some v → w.cell? ⟨b, o + j, none⟩ = some v ∧ g.pr b (o + j) := by
  cases h with
  | ep b o cs vs h1 h2 h3 =>
    refine ⟨b, o, (List.range cs.length).map vs, rfl, ⟨by simp, fun i v x hv hx => ?_⟩, fun j v hv => ?_⟩
    · have hi : i < cs.length := (List.getElem?_eq_some_iff.1 hx).1
      rw [List.getElem?_map, List.getElem?_range hi] at hv
      cases hv
      exact h2 i x hx
    · have hj : j < cs.length := by have := (List.getElem?_eq_some_iff.1 hv).1; simpa using this
      rw [List.getElem?_map, List.getElem?_range hj] at hv
      cases hv
      exact h1 j hj
end
section
variable {P : Program} [Tys P] {I : World → Prop} {env : Env} {σ : List Rs} {d : Option Tmp} {tt : TypeId} {ps : String} {af : Array Edge} {gd : Option (Nat × Bool)}
/-- A variable of one cell is read. -/
theorem rd_load {t : TypeId} {x : Operand} {T : Ty} {b o : Nat} {cs : List AV} {te : TypeId} {v : AV} (hx : env.val x = .sc (.pointer (some ⟨b, o, none⟩))) (ht : ty P t = some T) (hsh : T.sh.agg = false) (hv : cs[o]? = some v) : RdS P I ⟨d, .load t x, tt, ps, af, gd⟩ env (some (.box b cs te)) v := by
  obtain ⟨ds, i, hu, hs, _⟩ := (ty_ok ht).get
  refine rd_val (fun w0 g a w fr hI hR hr hE => ?_)
  obtain ⟨vs, fz, h1, _, h2, _⟩ := box_in hR (hr _ rfl)
  obtain ⟨u, hu1, hu2⟩ := h2.get hv
  have he := hE x (by simp [Op.operands, Call.operands])
  rw [hx] at he
  refine ⟨u, g, w, ?_, Ext.refl g w, hR, hu2⟩
  have hc : w.cell? ⟨b, o, none⟩ = some u := by rw [cell_of_row w b o vs te fz h1]; simpa using hu1
  have := run_isAgg (P := P) w hu
  rw [agg_of hs, hsh] at this
  simp [execOp, he.bool, Instr.loadAt, Instr.sureAddr, loadVar, this, hc]
/-- A variable of several cells is read. -/
theorem rd_loads {t : TypeId} {x : Operand} {T : Ty} {b o : Nat} {cs cs' : List AV} {te : TypeId} (hx : env.val x = .sc (.pointer (some ⟨b, o, none⟩))) (ht : ty P t = some T) (hsh : T.sh.agg = true) (hv : (cs.drop o).take T.size = cs') (hl : cs'.length = T.size)
    (h1 : ones cs' = true) : RdS P I ⟨d, .load t x, tt, ps, af, gd⟩ env (some (.box b cs te)) (.ag cs') := by
  have h1 := ones_mem h1
  obtain ⟨ds, i, hu, hs, hi, _, hsz, _⟩ := (ty_ok ht).get
  refine rd_val (fun w0 g a w fr hI hR hr hE => ?_)
  obtain ⟨vs, fz, g1, _, g2, _⟩ := box_in hR (hr _ rfl)
  have he := hE x (by simp [Op.operands, Call.operands])
  rw [hx] at he
  have hg2 := g2.1
  have hlen : T.size = 0 ∨ o + T.size ≤ vs.size := by
    rw [← hv] at hl
    simp at hl hg2
    omega
  subst hv
  rcases Nat.eq_zero_or_pos T.size with hz | hz
  · have hag := run_isAgg (P := P) w hu
    rw [agg_of hs, hsh] at hag
    refine ⟨.agg #[], g, w, ?_, Ext.refl g w, hR, ?_⟩
    · simp [execOp, he.bool, Instr.loadAt, Instr.sureAddr, loadVar, hag, run_size w hi, hsz, hz, loadCells, loadCellsFrom]
    · rw [hz, List.take_zero]; exact (VRs.nil g w).agg (fun y hy => by cases hy)
  · refine ⟨_, g, w, ?_, Ext.refl g w, hR, ((g2.drop o).take T.size).agg h1⟩
    have := loadAgg (P := P) (n := T.size) (o := o) (vs := vs) g1 hu (by rw [agg_of hs]; exact hsh) hi hsz (by omega)
    simp only [execOp, he.bool, Instr.loadAt, Instr.sureAddr, Sem.run_bind, Sem.run_pure, Result.andThen_ok, this]
theorem rd_loade {t : TypeId} {x : Operand} {T : Ty} {cs : List AV} {v : AV} (hx : env.val x = .ep cs) (ht : ty P t = some T) (hsh : T.sh.agg = false) (hv : cs[0]? = some v) : RdS P I ⟨d, .load t x, tt, ps, af, gd⟩ env none v := by
  obtain ⟨ds, i, hu, hs, _⟩ := (ty_ok ht).get
  refine rd_pure (fun g a w hE => ?_)
  have he := hE x (by simp [Op.operands, Call.operands])
  rw [hx] at he
  obtain ⟨b, o, vs, hp, h2, h3⟩ := ep_at he
  obtain ⟨u, hu1, hu2⟩ := h2.get hv
  refine ⟨u, ?_, hu2⟩
  have hc := (h3 0 u hu1).1
  rw [Nat.add_zero] at hc
  have := run_isAgg (P := P) w hu
  rw [agg_of hs, hsh] at this
  simp [execOp, hp, Instr.loadAt, Instr.sureAddr, loadVar, this, hc]
theorem rd_loades {t : TypeId} {x : Operand} {T : Ty} {cs cs' : List AV} (hx : env.val x = .ep cs) (ht : ty P t = some T) (hsh : T.sh.agg = true) (hv : cs.take T.size = cs') (hl : cs'.length = T.size) (h1 : ones cs' = true) : RdS P I ⟨d, .load t x, tt, ps, af, gd⟩ env none (.ag cs') := by
  have h1 := ones_mem h1
  obtain ⟨ds, i, hu, hs, hi, _, hsz, _⟩ := (ty_ok ht).get
  refine rd_pure (fun g a w hE => ?_)
  have he := hE x (by simp [Op.operands, Call.operands])
  rw [hx] at he
  obtain ⟨b, o, vs, hp, h2, h3⟩ := ep_at he
  subst hv
  have hvl : (vs.take T.size).length = T.size := by
    have := h2.1
    simp at hl ⊢
    omega
  refine ⟨_, ?_, (h2.take T.size).agg h1⟩
  have hag := run_isAgg (P := P) w hu
  rw [agg_of hs, hsh] at hag
  have := run_loadCells_list (P := P) w ⟨b, o, none⟩ (vs.take T.size) (fun j v hv => by
    rw [add_addr]
    rw [List.getElem?_take] at hv
    split at hv
    · exact (h3 j v hv).1
    · cases hv)
  rw [hvl] at this
  simp only [execOp, hp, Instr.loadAt, Instr.sureAddr, Sem.run_bind, Sem.run_pure, Result.andThen_ok, loadVar, hag, if_true, run_size w hi, hsz, this]
/-- A variable, or a part of it, is written. -/
theorem ef_store {t : TypeId} {x y : Operand} {T : Ty} {b o : Nat} {cs : List AV} {te : TypeId} (hx : env.val x = .sc (.pointer (some ⟨b, o, none⟩))) (ht : ty P t = some T)
    {v : AV} (hv : env.val y = v) (h1 : ones v.cells = true) (hl : v.cells.length = T.size) (hle : Nat.ble (o + T.size) cs.length = true) :
    EfS P I ⟨d, .store t x y, tt, ps, af, gd⟩ env [.box b cs te] (fun z τ' => z = .un ∧ τ' = [.box b (over cs o v.cells) te]) (fun _ _ => False) := by
  have h1 := ones_mem h1
  have hle := Nat.le_of_ble_eq_true hle
  obtain ⟨ds, i, hu, hs, hi, _, hsz, _⟩ := (ty_ok ht).get
  refine ef_skip (fun w0 g a w fr hI hR hE => ?_)
  have hR' : Rel w0 g (Rs.box b cs te :: fr) w := hR
  obtain ⟨vs, fz, g1, gz, g2, g3⟩ := box_in hR' (List.mem_cons_self ..)
  have he := hE x (by simp [Op.operands, Call.operands])
  rw [hx] at he
  have hy := hE y (by simp [Op.operands, Call.operands])
  rw [hv] at hy
  obtain ⟨c1, c2⟩ := hy.cells h1
  have hn : (a.eval y).cells.toList.length = T.size := by rw [c1.1, hl]
  have hfit : o + 0 + (a.eval y).cells.toList.length ≤ vs.size := by
    have := g2.1
    rw [hn]; simp at this; omega
  have hst := run_storeCells_thaw P b o te fz (a.eval y).cells.toList vs w g1 gz (by simpa using hfit) c2
  have hVR : VRs g w (vs.toList.take o ++ (a.eval y).cells.toList ++ vs.toList.drop (o + (a.eval y).cells.toList.length)) (over cs o v.cells) := by
    unfold over
    rw [c1.1]
    exact ((g2.take o).append c1).append (g2.drop _)
  have h1' : ∀ x, x ∈ over cs o v.cells → x.one = true ∨ x = .un := by
    intro z hz
    unfold over at hz
    rcases List.mem_append.1 hz with hz | hz
    · rcases List.mem_append.1 hz with hz | hz
      · exact g3 z (List.mem_of_mem_take hz)
      · exact .inl (h1 z hz)
    · exact g3 z (List.mem_of_mem_drop hz)
  obtain ⟨r1, r2⟩ := Rel.set (vs' := (vs.toList.take o ++ (a.eval y).cells.toList ++ vs.toList.drop (o + (a.eval y).cells.toList.length)).toArray) hR' (by simpa using hVR) (by have e := hVR.1; have := g2.1; simp at e this ⊢; rw [← e]; simp at hfit ⊢; omega) h1'
  refine ⟨g, _, _, ?_, r1, r2, rfl, rfl⟩
  have hs' : ¬ (a.eval y).cells.size ≠ i.size := by
    rw [hsz, ← hn]; simp
  simp only [execOp, he.bool, Instr.storeAt, Instr.sureAddr, Sem.run_bind, Sem.run_pure, Result.andThen_ok, storeVar, run_size w hi, if_neg hs', hst]
/-- A new variable. -/
theorem ef_alloc {e : TypeId} {T : Ty} (ht : ty P e = some T) (h1 : T.zero.cells.toList.all Value.oneCell' = true) :
    EfS P I ⟨d, .alloc e, tt, ps, af, gd⟩ env [] (fun x τ' => ∃ b, x = .sc (.pointer (some ⟨b, 0, none⟩)) ∧ τ' = [.box b (T.zero.cells.toList.map .sc) e]) (fun _ _ => False) := by
  have h1 := List.all_eq_true.1 h1
  obtain ⟨ds, i, hu, hs, hi, hz, hsz, _⟩ := (ty_ok ht).get
  refine ef_val (fun w0 g a w fr hI hR hE => ?_)
  have hR : Rel w0 g fr w := hR
  have hV : VRs g w T.zero.cells.toList (T.zero.cells.toList.map .sc) := ⟨by simp, fun i v x hv hy => by
    rw [List.getElem?_map, hv] at hy; cases hy; exact .sc v⟩
  obtain ⟨r1, r2⟩ := Rel.box (vs := T.zero.cells) hR e (by simpa using hV) (fun x hx => by
    obtain ⟨u, hu, rfl⟩ := List.mem_map.1 hx
    exact .inl (h1 u hu))
  refine ⟨_, g, _, _, _, ?_, r1, r2, .sc _, _, rfl, rfl⟩
  simp [execOp, Instr.alloc, run_zero w hi hz, newVar, newRow]
theorem zlOf_ty {e : TypeId} {T : Ty} (ht : ty P e = some T) : zlOf P e = T.zl := by
  obtain ⟨ds, i, hu, hs, hi, hz, hsz, _⟩ := (ty_ok ht).get
  have hz2 := (ty_ok ht).zl
  unfold zlOf
  rw [hi, Option.bind_some, hz]
  exact hz2
/-- New variables that a region makes: their types are in the table. -/
def alOk (P : Program) [Tys P] (N : Nat) (ops : Array Oper) : Bool := ops.all fun o => match o.op with
  | .alloc e => dstOk N o.dst && (match ty P e with | some T => T.zero.cells.toList.all Value.oneCell' | none => false)
  | _ => true
theorem alOk_spec {N : Nat} {ops : Array Oper} (h : alOk P N ops = true) (i : Nat) (o : Oper) (e : TypeId) (ho : ops[i]? = some o) (he : o.op = .alloc e) : dstOk N o.dst = true ∧ AllocOk P I o e := by
  have h1 := (Array.all_eq_true_iff_forall_mem.1 h) o (Array.mem_of_getElem? ho)
  rw [he] at h1
  dsimp only at h1
  rw [Bool.and_eq_true] at h1
  refine ⟨h1.1, fun env => ?_⟩
  cases ht : ty P e with
  | none => rw [ht] at h1; cases h1.2
  | some T =>
    rw [ht] at h1
    obtain ⟨d, op, tt, ps, af, gd⟩ := o
    cases he
    have := ef_alloc (P := P) (I := I) (d := d) (tt := tt) (ps := ps) (af := af) (gd := gd) (env := env) ht h1.2
    rw [(ty_ok ht).zl] at this
    rw [zlOf_ty ht]
    exact this
end
section
variable {P : Program} {I : World → Prop} {env : Env} {σ : List Rs} {d : Option Tmp} {tt : TypeId} {ps : String} {af : Array Edge} {gd : Option (Nat × Bool)}
theorem ef_box {e : TypeId} {x : Operand} {v : AV} (hv : env.val x = v) (h1 : ones v.cells = true) :
    EfS P I ⟨d, .box e x, tt, ps, af, gd⟩ env [] (fun y τ' => ∃ b, y = .sc (.pointer (some ⟨b, 0, none⟩)) ∧ τ' = [.box b v.cells e]) (fun _ _ => False) := by
  have h1 := ones_mem h1
  refine ef_val (fun w0 g a w fr hI hR hE => ?_)
  have hR : Rel w0 g fr w := hR
  have hy := hE x (by simp [Op.operands, Call.operands])
  rw [hv] at hy
  obtain ⟨c1, c2⟩ := hy.cells h1
  obtain ⟨r1, r2⟩ := Rel.box (vs := (a.eval x).cells) hR e c1 (fun x hx => .inl (h1 x hx))
  refine ⟨_, g, _, _, _, ?_, r1, r2, .sc _, _, rfl, rfl⟩
  simp [execOp, Instr.box, newVar, newRow]
/-- An element's address. -/
theorem VR.elem {g : Gh} {w : World} {v : Value} {es : Nat} {rs : List AV} (h : VR g w v (.sl es rs)) {k : Nat} {x : AV} (hk : rs[k]? = some x) :
    ∃ b o cap, v = .slice (some ⟨b, o, none⟩) rs.length cap ∧ VR g w (.pointer (some ⟨b, o + k * es, none⟩)) (.ep x.cells) := by
  have hlt : k < rs.length := (List.getElem?_eq_some_iff.1 hk).1
  cases h with
  | nl => simp at hk
  | sl b o len cap es rs vs hl hc hm h1 h2 h3 =>
    subst hl
    have hx := List.mem_of_getElem? hk
    refine ⟨b, o, cap, rfl, .ep b (o + k * es) x.cells (vs k) (fun j hj => ?_) (fun j y hy => h2 k j x y hk hy) (h3 x hx).2⟩
    rw [Nat.add_assoc]
    exact h1 k j hlt (by rw [← (h3 x hx).1]; exact hj)
theorem VR.ossl {g : Gh} {w : World} {v : Value} {k es : Nat} {rs : List AV} (h : VR g w v (.os k es rs)) : VR g w v (.sl es rs) := by cases h; assumption
/-- What reads as a slice. -/
def AV.isSl (v : AV) (es : Nat) (rs : List AV) : Prop := v = .sl es rs ∨ (∃ k, v = .os k es rs) ∨ (v = .sc (.slice none 0 0) ∧ rs = [])
theorem VR.isSl {g : Gh} {w : World} {v : Value} {x : AV} (h : VR g w v x) {es : Nat} {rs : List AV} (hx : x.isSl es rs) : VR g w v (.sl es rs) := by
  rcases hx with rfl | ⟨k, rfl⟩ | ⟨rfl, rfl⟩
  · exact h
  · exact h.ossl
  · rw [h.bool]; exact .nl es none 0 (Nat.zero_le _)
theorem isSl_sl (es : Nat) (rs : List AV) : (AV.sl es rs).isSl es rs := .inl rfl
theorem isSl_os (k es : Nat) (rs : List AV) : (AV.os k es rs).isSl es rs := .inr (.inl ⟨k, rfl⟩)
theorem isSl_nil (es : Nat) : (AV.sc (.slice none 0 0)).isSl es [] := .inr (.inr ⟨rfl, rfl⟩)
end
section
variable {P : Program} [Tys P] {I : World → Prop} {env : Env} {σ : List Rs} {d : Option Tmp} {tt : TypeId} {ps : String} {af : Array Edge} {gd : Option (Nat × Bool)}
theorem field_of {t : TypeId} {T : Ty} (ht : ty P t = some T) {fs : List (Nat × Nat × Option Bool)} (hs : T.sh = .st fs) {f off size : Nat} {ag : Option Bool} (hf : fs[f]? = some (off, size, ag)) (hz : 0 < size) :
    ∃ fields fld i, P.underlying t = some (.struct fields) ∧ fields[f]? = some fld ∧ fld.offset = off ∧ P.info? fld.type = some i ∧ i.size = size ∧ (P.underlying fld.type).map isAggD = ag := by
  obtain ⟨ds, i, hu, hsh, _⟩ := (ty_ok ht).get
  rw [hs] at hsh
  cases ds <;> simp only [shOf, reduceCtorEq, Sh.st.injEq] at hsh
  rename_i fields
  subst hsh
  rw [List.getElem?_map] at hf
  cases hfl : fields.toList[f]? with
  | none => rw [hfl] at hf; cases hf
  | some fld =>
    rw [hfl] at hf
    simp only [Option.map_some, Option.some.injEq, Prod.mk.injEq] at hf
    obtain ⟨a1, a2, a3⟩ := hf
    cases hi : P.info? fld.type with
    | none => rw [Program.cellsOf, hi] at a2; simp at a2; omega
    | some j =>
      rw [Program.cellsOf, hi] at a2
      exact ⟨fields, fld, j, hu, by simpa using hfl, a1, hi, by simpa using a2, a3⟩
theorem rd_fieldAddr {t : TypeId} {x : Operand} {T : Ty} {f b o off size : Nat} {ag : Option Bool} {fs : List (Nat × Nat × Option Bool)} (hx : env.val x = .sc (.pointer (some ⟨b, o, none⟩))) (ht : ty P t = some T) (hs : T.sh = .st fs) (hf : fs[f]? = some (off, size, ag)) (hz : Nat.blt 0 size = true) : RdS P I ⟨d, .fieldAddr t x f, tt, ps, af, gd⟩ env none (.sc (.pointer (some ⟨b, o + off, none⟩))) := by
  have hz : 0 < size := by simpa using hz
  obtain ⟨fields, fld, i, hu, hfl, ho, hi, hsz, _⟩ := field_of ht hs hf hz
  refine rd_pure (fun g a w hE => ?_)
  have he := hE x (by simp [Op.operands, Call.operands])
  rw [hx] at he
  refine ⟨_, ?_, .sc _⟩
  have hn : ¬ i.size = 0 := by omega
  simp [execOp, he.bool, Instr.fieldAt, run_underlying hu, hfl, Instr.sureAddr, fieldPlace, run_size w hi, hn, add_addr, ho]
theorem rd_fieldAddre {t : TypeId} {x : Operand} {T : Ty} {f off size : Nat} {ag : Option Bool} {fs : List (Nat × Nat × Option Bool)} {cs : List AV} (hx : env.val x = .ep cs) (ht : ty P t = some T) (hs : T.sh = .st fs) (hf : fs[f]? = some (off, size, ag)) (hz : Nat.blt 0 size = true) : RdS P I ⟨d, .fieldAddr t x f, tt, ps, af, gd⟩ env none (.ep (cs.drop off)) := by
  have hz : 0 < size := by simpa using hz
  obtain ⟨fields, fld, i, hu, hfl, ho, hi, hsz, _⟩ := field_of ht hs hf hz
  refine rd_pure (fun g a w hE => ?_)
  have he := hE x (by simp [Op.operands, Call.operands])
  rw [hx] at he
  have hn : ¬ i.size = 0 := by omega
  generalize hav : a.eval x = av at he
  cases he with
  | ep b o cs vs h1 h2 h3 =>
    refine ⟨.pointer (some ⟨b, o + off, none⟩), ?_, .ep b (o + off) _ (fun j => vs (off + j)) (fun j hj => ?_) (fun j y hy => h2 _ y (by rwa [List.getElem?_drop] at hy)) (fun y hy => h3 y (List.mem_of_mem_drop hy))⟩
    · simp [execOp, hav, Instr.fieldAt, run_underlying hu, hfl, Instr.sureAddr, fieldPlace, run_size w hi, hn, add_addr, ho]
    · rw [Nat.add_assoc]
      exact h1 (off + j) (by simp at hj; omega)
theorem rd_indexAddr {t e : TypeId} {x ix : Operand} {T E : Ty} {s : AV} {es k : Nat} {rs : List AV} {v : AV} (hx : env.val x = s) (hsl : s.isSl es rs) {n : Int} (hi : env.val ix = .sc (.int .i64 n)) (hn : n = (k : Int)) (hk : rs[k]? = some v) (ht : ty P t = some T) (hs : T.sh = .sl e) (he : ty P e = some E) (hes : E.size = es) : RdS P I ⟨d, .indexAddr t x ix, tt, ps, af, gd⟩ env none (.ep v.cells) := by
  obtain ⟨ds, i, hu, hsh, _⟩ := (ty_ok ht).get
  obtain ⟨de, ie, _, _, hie, _, hsz, _⟩ := (ty_ok he).get
  have hu' : P.underlying t = some (.slice e) := by
    rw [hs] at hsh
    cases ds <;> simp only [shOf, reduceCtorEq, Sh.sl.injEq] at hsh
    subst hsh; exact hu
  refine rd_pure (fun g a w hE => ?_)
  have h1 := hE x (by simp [Op.operands, Call.operands])
  rw [hx] at h1
  have h2 := hE ix (by simp [Op.operands, Call.operands])
  rw [hi] at h2
  obtain ⟨b, o, cap, hv, hep⟩ := (h1.isSl hsl).elem hk
  have hlt : k < rs.length := (List.getElem?_eq_some_iff.1 hk).1
  subst hn
  refine ⟨_, ?_, hep⟩
  have hc : (0 : Int) ≤ (k : Int) ∧ (k : Int) < (rs.length : Int) := by omega
  simp [execOp, h2.bool, hv, Instr.indexAt, asIntOf, run_underlying hu', run_size w hie, add_addr, hsz, hes, hlt]
theorem rd_field {t : TypeId} {x : Operand} {T : Ty} {f off size : Nat} {fs : List (Nat × Nat × Option Bool)} {cs : List AV} {v : AV} (hx : env.val x = .ag cs) (ht : ty P t = some T) (hs : T.sh = .st fs) (hf : fs[f]? = some (off, size, some false)) (hz : Nat.blt 0 size = true) (hv : cs[off]? = some v) : RdS P I ⟨d, .field t x f, tt, ps, af, gd⟩ env none v := by
  have hz : 0 < size := by simpa using hz
  obtain ⟨fields, fld, i, hu, hfl, ho, hi, hsz, hag⟩ := field_of ht hs hf hz
  refine rd_pure (fun g a w hE => ?_)
  have he := hE x (by simp [Op.operands, Call.operands])
  rw [hx] at he
  generalize hav : a.eval x = av at he
  cases he with
  | ag xs cs hl h h3 =>
    have hlt : off < xs.size := by rw [hl]; exact (List.getElem?_eq_some_iff.1 hv).1
    refine ⟨xs[off], ?_, h off _ v (Array.getElem?_eq_getElem hlt) hv⟩
    cases hud : P.underlying fld.type with
    | none => rw [hud] at hag; cases hag
    | some ds =>
      rw [hud] at hag
      simp only [Option.map_some, Option.some.injEq] at hag
      have hga := run_isAgg (P := P) w hud
      rw [hag] at hga
      simp [execOp, hav, Instr.field, run_underlying hu, hfl, asAgg, part, hga, ho, Array.getElem?_eq_getElem hlt]
end
section
variable {P : Program} {I : World → Prop} {env : Env} {σ : List Rs} {d : Option Tmp} {tt : TypeId} {ps : String} {af : Array Edge} {gd : Option (Nat × Bool)}
/-! ### Numbers and strings -/
theorem rd_add {t u : TypeId} {x y : Operand} {a b : Int} (hx : env.val x = .sc (.int .i64 a)) (hy : env.val y = .sc (.int .i64 b)) (h1 : -9223372036854775808 ≤ a + b) (h2 : a + b ≤ 9223372036854775807) : RdS P I ⟨d, .binOp .add t x y u, tt, ps, af, gd⟩ env none (.sc (.int .i64 (a + b))) := by
  refine rd_pure (fun g ac w hE => ?_)
  have e1 := hE x (by simp [Op.operands, Call.operands])
  have e2 := hE y (by simp [Op.operands, Call.operands])
  rw [hx] at e1
  rw [hy] at e2
  refine ⟨_, ?_, .sc _⟩
  have := IntWalk.i64_in (a + b) ⟨h1, h2⟩
  simp [execOp, e1.bool, e2.bool, eqGuard, binOp, Op.intArith, this]
theorem rd_sub {t u : TypeId} {x y : Operand} {a b : Int} (hx : env.val x = .sc (.int .i64 a)) (hy : env.val y = .sc (.int .i64 b)) (h1 : -9223372036854775808 ≤ a - b) (h2 : a - b ≤ 9223372036854775807) : RdS P I ⟨d, .binOp .sub t x y u, tt, ps, af, gd⟩ env none (.sc (.int .i64 (a - b))) := by
  refine rd_pure (fun g ac w hE => ?_)
  have e1 := hE x (by simp [Op.operands, Call.operands])
  have e2 := hE y (by simp [Op.operands, Call.operands])
  rw [hx] at e1
  rw [hy] at e2
  refine ⟨_, ?_, .sc _⟩
  have := IntWalk.i64_in (a - b) ⟨h1, h2⟩
  simp [execOp, e1.bool, e2.bool, eqGuard, binOp, Op.intArith, this]
def cmpI : BinOp → Int → Int → Option Bool
  | .eql, a, b => some (decide (a = b))
  | .neq, a, b => some (decide (a ≠ b))
  | .lss, a, b => some (decide (a < b))
  | .leq, a, b => some (decide (a ≤ b))
  | .gtr, a, b => some (decide (b < a))
  | .geq, a, b => some (decide (b ≤ a))
  | _, _, _ => none
theorem rd_cmp {op : BinOp} {t u : TypeId} {x y : Operand} {K : IntKind} {a b : Int} {r : Bool} (hx : env.val x = .sc (.int K a)) (hy : env.val y = .sc (.int K b)) (hr : cmpI op a b = some r) : RdS P I ⟨d, .binOp op t x y u, tt, ps, af, gd⟩ env none (.sc (.bool r)) := by
  refine rd_pure (fun g ac w hE => ?_)
  have e1 := hE x (by simp [Op.operands, Call.operands])
  have e2 := hE y (by simp [Op.operands, Call.operands])
  rw [hx] at e1
  rw [hy] at e2
  refine ⟨.bool r, ?_, .sc _⟩
  cases op <;> simp only [cmpI, reduceCtorEq, Option.some.injEq] at hr <;> subst hr <;> simp [execOp, e1.bool, e2.bool, eqGuard, binOp, Op.intCmp]
  · rw [Bool.eq_iff_iff]; simp
  · rw [Bool.eq_iff_iff]; simp
theorem toList_eq (a b : ByteArray) : (a.toList == b.toList) = decide (a = b) := by
  rw [Bool.eq_iff_iff]
  simp only [beq_iff_eq, decide_eq_true_eq]
  refine ⟨fun h => ?_, fun h => by rw [h]⟩
  rw [ByteArray.toList_eq, ByteArray.toList_eq] at h
  cases a
  cases b
  simp only [ByteArray.mk.injEq]
  exact Array.ext' h
def cmpS : BinOp → ByteArray → ByteArray → Option Bool
  | .eql, a, b => some (decide (a = b))
  | .neq, a, b => some (decide (a ≠ b))
  | _, _, _ => none
theorem rd_cmps {op : BinOp} {t u : TypeId} {x y : Operand} {a b : ByteArray} {r : Bool} (hx : env.val x = .sc (.string a)) (hy : env.val y = .sc (.string b)) (hr : cmpS op a b = some r) : RdS P I ⟨d, .binOp op t x y u, tt, ps, af, gd⟩ env none (.sc (.bool r)) := by
  refine rd_pure (fun g ac w hE => ?_)
  have e1 := hE x (by simp [Op.operands, Call.operands])
  have e2 := hE y (by simp [Op.operands, Call.operands])
  rw [hx] at e1
  rw [hy] at e2
  refine ⟨.bool r, ?_, .sc _⟩
  cases op <;> simp only [cmpS, reduceCtorEq, Option.some.injEq] at hr <;> subst hr <;> simp [execOp, e1.bool, e2.bool, eqGuard, binOp, Op.stringOp, toList_eq]
theorem rd_concat {t u : TypeId} {x y : Operand} {a b : ByteArray} (hx : env.val x = .sc (.string a)) (hy : env.val y = .sc (.string b)) (hs : a.size + b.size ≤ 9223372036854775807) : RdS P I ⟨d, .binOp .add t x y u, tt, ps, af, gd⟩ env none (.sc (.string (a ++ b))) := by
  refine rd_pure (fun g ac w hE => ?_)
  have e1 := hE x (by simp [Op.operands, Call.operands])
  have e2 := hE y (by simp [Op.operands, Call.operands])
  rw [hx] at e1
  rw [hy] at e2
  refine ⟨_, ?_, .sc _⟩
  simp only [execOp, e1.bool, e2.bool, eqGuard, binOp, Sem.run_bind, Sem.run_pure]
  simp [run_string_add_sum w a b hs]
theorem rd_unot {t : TypeId} {x : Operand} {b : Bool} (hx : env.val x = .sc (.bool b)) : RdS P I ⟨d, .unOp .not t x, tt, ps, af, gd⟩ env none (.sc (.bool !b)) := by
  refine rd_pure (fun g ac w hE => ?_)
  have e1 := hE x (by simp [Op.operands, Call.operands])
  rw [hx] at e1
  exact ⟨_, by simp [execOp, e1.bool, Op.unary], .sc _⟩
theorem rd_extract {x : Operand} {j : Nat} {vs : List AV} {v : AV} (hx : env.val x = .tu vs) (hv : vs[j]? = some v) : RdS P I ⟨d, .extract x j, tt, ps, af, gd⟩ env none v := by
  refine rd_pure (fun g ac w hE => ?_)
  have e1 := hE x (by simp [Op.operands, Call.operands])
  rw [hx] at e1
  generalize hav : ac.eval x = av at e1
  cases e1 with
  | tu xs cs hl h =>
    have hlt : j < xs.size := by rw [hl]; exact (List.getElem?_eq_some_iff.1 hv).1
    exact ⟨xs[j], by simp [execOp, hav, Instr.extract, Array.getElem?_eq_getElem hlt], h j _ v (Array.getElem?_eq_getElem hlt) hv⟩
theorem rd_makeFunc {fn : Fn} {first captured : Array Operand} {fs cs : List AV} (hf : first.toList.map env.val = fs) (hc : captured.toList.map env.val = cs) : RdS P I ⟨d, .makeFunc fn first captured, tt, ps, af, gd⟩ env none (.fn fn fs cs) := by
  refine rd_pure (fun g ac w hE => ?_)
  subst hf
  subst hc
  refine ⟨.func fn (first.map ac.eval) (captured.map ac.eval), by simp [execOp, Instr.makeFunc], .fn _ _ _ _ _ (by simp) (by simp) (fun i x y hx hy => ?_) (fun i x y hx hy => ?_)⟩
  · rw [Array.getElem?_map] at hx
    rw [List.getElem?_map, Array.getElem?_toList] at hy
    cases hz : first[i]? with
    | none => rw [hz] at hx; cases hx
    | some z => rw [hz] at hx hy; cases hx; cases hy; exact hE z (by simp only [Op.operands, Array.mem_append]; exact .inl (Array.mem_of_getElem? hz))
  · rw [Array.getElem?_map] at hx
    rw [List.getElem?_map, Array.getElem?_toList] at hy
    cases hz : captured[i]? with
    | none => rw [hz] at hx; cases hx
    | some z => rw [hz] at hx hy; cases hx; cases hy; exact hE z (by simp only [Op.operands, Array.mem_append]; exact .inr (Array.mem_of_getElem? hz))
theorem VRs.args {g : Gh} {w : World} {ac : Act} (as : Array Operand) (hE : ∀ x, x ∈ as → VR g w (ac.eval x) (env.val x)) : VRs g w (as.map ac.eval).toList (as.toList.map env.val) := by
  refine ⟨by simp, fun i v x hv hx => ?_⟩
  simp only [List.getElem?_map, Array.getElem?_toList, Array.toList_map] at hx hv
  cases hz : as[i]? with
  | none => rw [hz] at hx; cases hx
  | some z => rw [hz] at hx hv; cases hx; cases hv; exact hE z (Array.mem_of_getElem? hz)
/-! ### Calls -/
theorem run_enter {f : FuncId} (h : Ent P f) (args : Array Value) (w : World) : (callFunc f args).run P w = .ok (.enter f args) w := by
  obtain ⟨fn, c, h1, h2, h3⟩ := h
  have h2' : ¬ (fn.name == "runtime.NumGoroutine") = true := by rw [h2]; simp
  simp [callFunc, h1, h3]
  intro he
  rw [he] at h2
  simp at h2
/-- A call of a function by its name. -/
theorem ef_call {f : FuncId} {as : Array Operand} {ts : Array TypeId} {args : List AV} {τ : List Rs} {R : Out → List Rs → Prop} (hs : Sim P I f args τ R) (ha : as.toList.map env.val = args) :
    EfS P I ⟨d, .call ⟨.value (.func f), as, ts⟩, tt, ps, af, gd⟩ env τ (fun x τ' => R (.ret x) τ') (fun c τ' => R (.pan c) τ') := by
  subst ha
  refine ef_enter hs (fun g ac w hE => ⟨(as.map ac.eval).toList, ?_, VRs.args as (fun x hx => hE x (by simp only [Op.operands, Call.operands, Array.mem_append]; exact .inr hx))⟩)
  simp [execOp, resolve, Act.eval, Deferred.ofValue, invoke, run_enter hs.1]
  rw [← Array.toList_map, Array.toArray_toList]
/-- A call of a function value. -/
theorem ef_callv {f : FuncId} {x : Operand} {as : Array Operand} {ts : Array TypeId} {args fs cs : List AV} {τ : List Rs} {R : Out → List Rs → Prop} (hx : env.val x = .fn (.func f) fs cs) (hs : Sim P I f args τ R) (ha : fs ++ as.toList.map env.val ++ cs = args) :
    EfS P I ⟨d, .call ⟨.value x, as, ts⟩, tt, ps, af, gd⟩ env τ (fun x τ' => R (.ret x) τ') (fun c τ' => R (.pan c) τ') := by
  subst ha
  refine ef_enter hs (fun g ac w hE => ?_)
  have e1 := hE x (by simp [Op.operands, Call.operands])
  rw [hx] at e1
  generalize hav : ac.eval x = av at e1
  cases e1 with
  | fn _ first captured _ _ hf hc h1 h2 =>
    refine ⟨first.toList ++ (as.map ac.eval).toList ++ captured.toList, ?_, (VRs.append ⟨by simpa using hf, fun i v y hv hy => h1 i v y (by simpa using hv) hy⟩ (VRs.args as (fun x hx => hE x (by simp only [Op.operands, Call.operands, Array.mem_append]; exact .inr hx)))).append ⟨by simpa using hc, fun i v y hv hy => h2 i v y (by simpa using hv) hy⟩⟩
    simp [execOp, resolve, hav, Deferred.ofValue, invoke, run_enter hs.1]
/-- A call that changes nothing. -/
theorem rd_call {f : FuncId} {as : Array Operand} {ts : Array TypeId} {args : List AV} {r : Option Rs} {v : AV} (hs : Sim P I f args r.toList (fun o τ' => o = .ret v ∧ τ' = r.toList)) (ha : as.toList.map env.val = args) :
    RdS P I ⟨d, .call ⟨.value (.func f), as, ts⟩, tt, ps, af, gd⟩ env r v := by
  subst ha
  refine rd_enter hs (fun g ac w hE => ⟨(as.map ac.eval).toList, ?_, VRs.args as (fun x hx => hE x (by simp only [Op.operands, Call.operands, Array.mem_append]; exact .inr hx))⟩)
  simp [execOp, resolve, Act.eval, Deferred.ofValue, invoke, run_enter hs.1]
  rw [← Array.toList_map, Array.toArray_toList]
end
def afill (place : Nat → Option (Nat × Nat)) (cells : List AV) : List (Nat × AV) → Option (List AV)
  | [] => some cells
  | (i, v) :: rest =>
    match place i with
    | none => none
    | some (off, size) => if v.cells.length = size ∧ off + v.cells.length ≤ cells.length then afill place (over cells off v.cells) rest else none
theorem fold_set : ∀ (l : List Value) (k off : Nat) (cs : Array Value), off + k + l.length ≤ cs.size →
    ((l.zipIdx k).foldl (fun cs (c, j) => cs.setIfInBounds (off + j) c) cs).toList = cs.toList.take (off + k) ++ l ++ cs.toList.drop (off + k + l.length)
  | [], k, off, cs, h => by simp
  | v :: l, k, off, cs, h => by
    rw [List.length_cons] at h
    have := fold_set l (k + 1) off (cs.setIfInBounds (off + k) v) (by rw [Array.size_setIfInBounds]; omega)
    rw [List.zipIdx_cons, List.foldl_cons, this, Array.toList_setIfInBounds]
    have hlt : off + k < cs.toList.length := by simp; omega
    rw [show off + (k + 1) = off + k + 1 from rfl, List.take_set, List.drop_set_of_lt (by omega), List.take_succ_eq_append_getElem hlt, List.length_cons,
      show off + k + 1 + l.length = off + k + (l.length + 1) by omega, List.set_append_right _ _ (by simp; omega)]
    have : off + k - (List.take (off + k) cs.toList).length = 0 := by simp; omega
    rw [this]
    simp
theorem fill_VR {g : Gh} {w : World} (place : Nat → Option (Nat × Nat)) : ∀ (parts : List (Nat × Value)) (aparts : List (Nat × AV)) (cells : Array Value) (acells res : List AV),
    parts.map (·.1) = aparts.map (·.1) → VRs g w (parts.map (·.2)) (aparts.map (·.2)) → (∀ p, p ∈ aparts → ∀ y, y ∈ p.2.cells → y.one = true) → VRs g w cells.toList acells → afill place acells aparts = some res →
    ∃ out, Instr.fill place cells parts = some out ∧ VRs g w out.toList res
  | [], [], cells, acells, res, _, _, _, hc, h => by
    simp only [afill, Option.some.injEq] at h
    subst h
    exact ⟨cells, rfl, hc⟩
  | [], _ :: _, _, _, _, hn, _, _, _, _ => by simp at hn
  | _ :: _, [], _, _, _, hn, _, _, _, _ => by simp at hn
  | (i, v) :: parts, (j, x) :: aparts, cells, acells, res, hn, hv, h1, hc, h => by
    simp only [List.map_cons, List.cons.injEq] at hn
    obtain ⟨rfl, hn⟩ := hn
    have hvx : VR g w v x := hv.2 0 v x rfl rfl
    have hvr : VRs g w (parts.map (·.2)) (aparts.map (·.2)) := ⟨by simpa using hv.1, fun k u y hu hy => hv.2 (k + 1) u y (by simpa using hu) (by simpa using hy)⟩
    obtain ⟨c1, c2⟩ := hvx.cells (h1 _ (List.mem_cons_self ..))
    unfold afill at h
    unfold Instr.fill
    cases hp : place i with
    | none => rw [hp] at h; cases h
    | some os =>
      obtain ⟨off, size⟩ := os
      rw [hp] at h
      dsimp only at h ⊢
      split at h
      · rename_i hcond
        obtain ⟨e1, e2⟩ := hcond
        have hl1 : v.cells.size = x.cells.length := by have := c1.1; simpa using this
        have hl2 : cells.size = acells.length := by have := hc.1; simpa using this
        rw [if_neg (by simp only [hl1, hl2, e1, Bool.or_eq_true, decide_eq_true_eq]; omega)]
        refine fill_VR place parts aparts _ _ res hn hvr (fun p hp => h1 p (List.mem_cons_of_mem _ hp)) ?_ h
        have := fold_set v.cells.toList 0 off cells (by simp; omega)
        rw [← Array.foldl_toList, Array.toList_zipIdx, this]
        unfold over
        rw [← c1.1]
        exact ((hc.take off).append c1).append (hc.drop _)
      · cases h
section
variable {P : Program} [Tys P] {I : World → Prop} {env : Env} {σ : List Rs} {d : Option Tmp} {tt : TypeId} {ps : String} {af : Array Edge} {gd : Option (Nat × Bool)}
omit [Tys P] in
theorem places_of : ∀ (fs : List Field), (∀ p, p ∈ fs.map (fun f => (f.offset, P.cellsOf f.type)) → 0 < p.2) →
    fs.mapM (fun f => (P.info? f.type).map fun i => (f.offset, i.size)) = some (fs.map fun f => (f.offset, P.cellsOf f.type))
  | [], _ => rfl
  | f :: fs, h => by
    have h0 := h (f.offset, P.cellsOf f.type) (by simp)
    cases hi : P.info? f.type with
    | none => simp [Program.cellsOf, hi] at h0
    | some i =>
      have := places_of fs (fun p hp => h p (by simp only [List.map_cons]; exact List.mem_cons_of_mem _ hp))
      simp [List.mapM_cons, hi, this, Program.cellsOf]
theorem parts_VR {g : Gh} {w : World} {ac : Act} (parts : Array (Nat × Operand)) (hE : ∀ p, p ∈ parts.toList → VR g w (ac.eval p.2) (env.val p.2)) :
    ((parts.map fun (i, x) => (i, ac.eval x)).toList.map (·.1) = (parts.toList.map fun p => (p.1, env.val p.2)).map (·.1)) ∧ VRs g w ((parts.map fun (i, x) => (i, ac.eval x)).toList.map (·.2)) ((parts.toList.map fun p => (p.1, env.val p.2)).map (·.2)) := by
  refine ⟨by simp, by simp, fun i v x hv hx => ?_⟩
  simp only [List.map_map, Array.toList_map, List.getElem?_map] at hv hx
  cases hz : parts.toList[i]? with
  | none => rw [hz] at hv; cases hv
  | some z => rw [hz] at hv hx; cases hv; cases hx; exact hE z (List.mem_of_getElem? hz)
theorem scs_VR (g : Gh) (w : World) (l : List Value) : VRs g w l (l.map .sc) := ⟨by simp, fun i v x hv hy => by rw [List.getElem?_map, hv] at hy; cases hy; exact .sc v⟩
def Sh.places : Sh → List (Nat × Nat)
  | .st fs => fs.map fun f => (f.1, f.2.1)
  | _ => []
/-- A struct by its fields. -/
theorem rd_build {t : TypeId} {parts : Array (Nat × Operand)} {T : Ty} {aparts : List (Nat × AV)} {cs : List AV} (ht : ty P t = some T) (hp : parts.toList.map (fun p => (p.1, env.val p.2)) = aparts) (hst : (match T.sh with | .st _ => true | _ => false) = true) (hpos : (T.sh.places.all fun p => Nat.blt 0 p.2) = true)
    (hf : afill (T.sh.places[·]?) (T.zero.cells.toList.map .sc) aparts = some cs) (h1 : (aparts.all fun p => ones p.2.cells) = true) (h2 : ones cs = true) : RdS P I ⟨d, .build t parts, tt, ps, af, gd⟩ env none (.ag cs) := by
  have h1 : ∀ p, p ∈ aparts → ∀ y, y ∈ p.2.cells → y.one = true := fun p hp => ones_mem (List.all_eq_true.1 h1 p hp)
  have h2 := ones_mem h2
  have hpos : ∀ p, p ∈ T.sh.places → 0 < p.2 := fun p hp => by simpa using List.all_eq_true.1 hpos p hp
  obtain ⟨ds, i, hu, hs, hi, hz, hsz, _⟩ := (ty_ok ht).get
  subst hp
  refine rd_pure (fun g ac w hE => ?_)
  obtain ⟨q1, q2⟩ := parts_VR (env := env) parts (fun p hp => hE p.2 (by simp only [Op.operands, List.mem_toArray, List.mem_map]; exact ⟨p, hp, rfl⟩))
  cases hsh : T.sh with
  | st fs =>
    rw [hsh] at hs hpos hf
    cases ds <;> simp only [shOf, reduceCtorEq, Sh.st.injEq] at hs
    rename_i fields
    subst hs
    have hpl : (Sh.st (List.map (fun f => (f.offset, P.cellsOf f.type, Option.map isAggD (P.underlying f.type))) fields.toList)).places = fields.toList.map fun f => (f.offset, P.cellsOf f.type) := by
      simp [Sh.places]
    rw [hpl] at hpos hf
    obtain ⟨out, o1, o2⟩ := fill_VR (g := g) (w := w) _ _ _ T.zero.cells _ _ q1 q2 h1 (scs_VR g w _) hf
    have hb : P.built t (parts.map fun (i, x) => (i, ac.eval x)).toList = some out := by
      unfold Program.built
      rw [hi, hu]
      dsimp only
      rw [hz, places_of _ hpos]
      dsimp only
      simp only [List.getElem?_toArray]
      exact o1
    refine ⟨.agg out, ?_, ?_⟩
    · simp only [execOp, Sem.run_bind, run_build w t _ out hb, Result.andThen_ok, Sem.run_pure]
    · have := o2.agg h2
      rwa [Array.toArray_toList] at this
  | _ => rw [hsh] at hst; cases hst
theorem slice_of {t e : TypeId} {T : Ty} (ht : ty P t = some T) (hs : T.sh = .sl e) : P.underlying t = some (.slice e) := by
  obtain ⟨ds, i, hu, hsh, _⟩ := (ty_ok ht).get
  rw [hs] at hsh
  cases ds <;> simp only [shOf, reduceCtorEq, Sh.sl.injEq] at hsh
  subst hsh; exact hu
/-- Elements out of cells. -/
def chop (es : Nat) (agg : Bool) : List AV → Nat → List AV
  | _, 0 => []
  | cs, n + 1 => (if agg then AV.ag (cs.take es) else cs.headD .un) :: chop es agg (cs.drop es) n
theorem RowR.chop1 {g : Gh} {w : World} : ∀ (n : Nat) (xs : List Value) (cs : List AV), VRs g w xs cs → cs.length = n * 1 → (∀ y, y ∈ cs → y.one = true ∧ y.cells = [y]) → RowR g w xs 1 (chop 1 false cs n)
  | 0, xs, cs, h, hl, _ => by
    have : xs = [] := List.eq_nil_of_length_eq_zero (by rw [h.1, hl, Nat.zero_mul])
    subst this
    exact RowR.nil g w 1
  | n + 1, xs, cs, h, hl, h1 => by
    cases cs with
    | nil => simp at hl
    | cons c cs =>
      cases xs with
      | nil => have := h.1; simp at this
      | cons x xs =>
        have hx : VR g w x c := h.2 0 x c rfl rfl
        have ht : VRs g w xs cs := ⟨by simpa using h.1, fun k u y hu hy => h.2 (k + 1) u y (by simpa using hu) (by simpa using hy)⟩
        have ih := RowR.chop1 n xs cs ht (by simp at hl; omega) (fun y hy => h1 y (List.mem_cons_of_mem _ hy))
        obtain ⟨o1, o2⟩ := h1 c (List.mem_cons_self ..)
        have r1 : RowR g w [x] 1 [c] := ⟨rfl, fun i z j y hz hy => by
          cases i with
          | zero =>
            simp at hz; subst hz
            rw [o2] at hy
            cases j with
            | zero => simp at hy; subst hy; exact ⟨x, rfl, hx⟩
            | succ j => simp at hy
          | succ i => simp at hz, fun z hz => by
            rw [List.mem_singleton] at hz; subst hz
            rw [o2]
            exact ⟨rfl, fun y hy => by rw [List.mem_singleton] at hy; subst hy; exact o1⟩⟩
        have := r1.append ih
        simpa [chop] using this
theorem RowR.chopn {g : Gh} {w : World} (es : Nat) : ∀ (n : Nat) (xs : List Value) (cs : List AV), VRs g w xs cs → cs.length = n * es → (∀ y, y ∈ cs → y.one = true) → RowR g w xs es (chop es true cs n)
  | 0, xs, cs, h, hl, _ => by
    have : xs = [] := List.eq_nil_of_length_eq_zero (by rw [h.1, hl, Nat.zero_mul])
    subst this
    exact RowR.nil g w es
  | n + 1, xs, cs, h, hl, h1 => by
    have hle : es ≤ cs.length := by rw [hl, Nat.add_mul]; omega
    have ih := RowR.chopn es n (xs.drop es) (cs.drop es) (h.drop es) (by rw [List.length_drop, hl, Nat.add_mul]; omega) (fun y hy => h1 y (List.mem_of_mem_drop hy))
    have ht := h.take es
    have hlt : (cs.take es).length = es := by simp; omega
    have r1 : RowR g w (xs.take es) es [.ag (cs.take es)] := ⟨by rw [ht.1, hlt]; simp, fun i z j y hz hy => by
      cases i with
      | zero =>
        simp at hz; subst hz
        obtain ⟨v, e1, e2⟩ := ht.get (i := j) (x := y) hy
        exact ⟨v, by rw [Nat.zero_mul, Nat.zero_add]; exact e1, e2⟩
      | succ i => simp at hz, fun z hz => by
        rw [List.mem_singleton] at hz; subst hz
        exact ⟨hlt, fun y hy => h1 y (List.mem_of_mem_take hy)⟩⟩
    have := r1.append ih
    simpa [chop, List.take_append_drop] using this
/-- A slice by its elements. -/
theorem ef_buildSlice {t e : TypeId} {len es : Nat} {parts : Array (Nat × Operand)} {T E : Ty} {aparts : List (Nat × AV)} {cs rs : List AV} (ht : ty P t = some T) (hs : T.sh = .sl e) (he : ty P e = some E) (hes : E.size = es) (hp : parts.toList.map (fun p => (p.1, env.val p.2)) = aparts)
    (hpos : Nat.blt 0 (len * es) = true) (hle : Nat.ble (len * es) 16777216 = true)
    (hf : afill (fun i => some (i * es, es)) ((List.range (len * es)).map fun j => .sc (E.zero.cells[j % E.zero.cells.size]!)) aparts = some cs) (h1 : (aparts.all fun p => ones p.2.cells) = true) (h2 : ones cs = true) (hlen : cs.length = len * es)
    (hrs : rs = chop es E.sh.agg cs len) (hag : (E.sh.agg || (Nat.beq es 1 && cs.all AV.single)) = true) :
    EfS P I ⟨d, .buildSlice t len parts, tt, ps, af, gd⟩ env [] (fun x τ' => ∃ b, x = .os b es rs ∧ τ' = [.tok b e es rs.length]) (fun _ _ => False) := by
  have h1 : ∀ p, p ∈ aparts → ∀ y, y ∈ p.2.cells → y.one = true := fun p hp => ones_mem (List.all_eq_true.1 h1 p hp)
  have h2 := ones_mem h2
  have hpos : 0 < len * es := by simpa using hpos
  have hle := Nat.le_of_ble_eq_true hle
  have hag : E.sh.agg = true ∨ (es = 1 ∧ ∀ y, y ∈ cs → y.cells = [y]) := by
    rw [Bool.or_eq_true, Bool.and_eq_true] at hag
    exact hag.imp id fun ⟨a, b⟩ => ⟨Nat.eq_of_beq_eq_true a, fun y hy => AV.single_cells (List.all_eq_true.1 b y hy)⟩
  obtain ⟨de, ie, _, _, hie, hze, hsze, _⟩ := (ty_ok he).get
  have hu := slice_of ht hs
  subst hp
  refine ef_val (fun w0 g ac w fr hI hR hE => ?_)
  have hR : Rel w0 g fr w := hR
  obtain ⟨q1, q2⟩ := parts_VR (env := env) parts (fun p hp => hE p.2 (by simp only [Op.operands, List.mem_toArray, List.mem_map]; exact ⟨p, hp, rfl⟩))
  have hz0 : VRs g w ((Array.range (len * es)).map (E.zero.cells[· % E.zero.cells.size]!)).toList ((List.range (len * es)).map fun j => .sc (E.zero.cells[j % E.zero.cells.size]!)) := by
    refine ⟨by simp, fun i v x hv hx => ?_⟩
    simp only [Array.toList_map, Array.toList_range, List.getElem?_map] at hv hx
    cases hz : (List.range (len * es))[i]? with
    | none => rw [hz] at hv; cases hv
    | some z => rw [hz] at hv hx; cases hv; cases hx; exact .sc _
  obtain ⟨out, o1, o2⟩ := fill_VR (g := g) (w := w) _ _ _ _ _ _ q1 q2 h1 hz0 hf
  have hrow : RowR g w out.toList es rs := by
    subst hrs
    rcases hag with ha | ⟨rfl, ha⟩
    · rw [ha]; exact RowR.chopn es len _ _ o2 hlen h2
    · cases hb : E.sh.agg with
      | true => exact RowR.chopn 1 len _ _ o2 hlen h2
      | false => exact RowR.chop1 len _ _ o2 hlen (fun y hy => ⟨h2 y hy, ha y hy⟩)
  have hrl : rs.length = len := by
    have h3 := hrow.len
    have h4 := o2.1
    rw [hlen] at h4
    have h5 : len * es = rs.length * es := by omega
    have hes0 : 0 < es := Nat.pos_of_mul_pos_left hpos
    exact (Nat.eq_of_mul_eq_mul_right hes0 h5).symm
  have hll : len ≤ 16777216 := by
    have hes0 : 0 < es := Nat.pos_of_mul_pos_left hpos
    exact Nat.le_trans (Nat.le_mul_of_pos_right len hes0) hle
  obtain ⟨g', x1, x2, x3⟩ := Rel.row hR e hrow (by rw [hrl]; simp only [maxLen]; omega)
  refine ⟨_, g', _, _, _, ?_, x1, x2, x3, _, rfl, rfl⟩
  subst hes
  have := run_buildSlice (P := P) w t e len (parts.map fun (i, x) => (i, ac.eval x)) out ie E.zero hu hie hze (by rw [hsze]; omega) (by rw [hsze]; omega) (by rw [hsze]; exact o1)
  simp only [execOp, Sem.run_bind, this, Result.andThen_ok, Sem.run_pure, hrl, Array.toArray_toList]
end
theorem VR.sub {g : Gh} {w : World} {v : Value} {es : Nat} {rs : List AV} (h : VR g w v (.sl es rs)) {l k : Nat} (hl : l ≤ k) (hk : k ≤ rs.length) :
    ∃ a len cap, v = .slice a len cap ∧ len = rs.length ∧ k ≤ cap ∧ VR g w (.slice (if cap = l then a else a.map (·.add (l * es))) (k - l) (cap - l)) (.sl es ((rs.take k).drop l)) := by
  cases h with
  | nl es a c hc =>
    simp at hk
    subst hk
    have : l = 0 := by omega
    subst this
    exact ⟨a, 0, c, rfl, rfl, Nat.zero_le _, .nl es _ _ hc⟩
  | sl b o len cap es rs vs hlen hc hm h1 h2 h3 =>
    subst hlen
    refine ⟨some ⟨b, o, none⟩, rs.length, cap, rfl, rfl, by omega, ?_⟩
    have hlen' : ((rs.take k).drop l).length = k - l := by simp; omega
    have hsub : ∀ x, x ∈ (rs.take k).drop l → x ∈ rs := fun x hx => List.mem_of_mem_take (List.mem_of_mem_drop hx)
    have hget : ∀ i x, ((rs.take k).drop l)[i]? = some x → rs[l + i]? = some x := by
      intro i x hx
      rw [List.getElem?_drop, List.getElem?_take] at hx
      split at hx
      · exact hx
      · cases hx
    by_cases e : cap = l
    · rw [if_pos e]
      have hz : k - l = 0 := by omega
      refine .sl b o (k - l) (cap - l) es _ (fun i j => vs (l + i) j) hlen' (by omega) (by omega) (fun i j hi => by omega) (fun i j x y hx hy => h2 _ j x y (hget i x hx) hy) (fun x hx => h3 x (hsub x hx))
    · rw [if_neg e, Option.map_some, add_addr]
      refine .sl b (o + l * es) (k - l) (cap - l) es _ (fun i j => vs (l + i) j) hlen' (by omega) (by omega) (fun i j hi hj => ?_) (fun i j x y hx hy => h2 _ j x y (hget i x hx) hy) (fun x hx => h3 x (hsub x hx))
      have := h1 (l + i) j (by omega) hj
      rw [Nat.add_mul] at this
      rw [show o + l * es + (i * es + j) = o + (l * es + i * es + j) by omega]
      exact this
section
variable {P : Program} [Tys P] {I : World → Prop} {env : Env} {σ : List Rs} {d : Option Tmp} {tt : TypeId} {ps : String} {af : Array Edge} {gd : Option (Nat × Bool)}
theorem ef_append {t e : TypeId} {s x : Operand} {T E : Ty} {k es : Nat} {rs ys : List AV} {xv : AV} (hs : env.val s = .os k es rs) (hx : env.val x = xv) (hxs : xv.isSl es ys) (ht : ty P t = some T) (hsl : T.sh = .sl e) (he : ty P e = some E) (hes : E.size = es) (hzs : E.zero.cells.size = E.size) (hpos : Nat.blt 0 es = true)
    (h63 : rs.length + ys.length ≤ maxLen) (hb : (rs.length + ys.length) * E.bytes ≤ 140737488355328) :
    EfS P I ⟨d, .call ⟨.builtin .append, #[s, x], #[t, t]⟩, tt, ps, af, gd⟩ env [.tok k e es rs.length] (fun v τ' => v = .os k es (rs ++ ys) ∧ τ' = [.tok k e es (rs ++ ys).length]) (fun _ _ => False) := by
  have hpos : 0 < es := by simpa using hpos
  obtain ⟨de, ie, _, _, hie, hze, hsze, hby⟩ := (ty_ok he).get
  refine ef_val (fun w0 g ac w fr hI hR hE => ?_)
  have hR' : Rel w0 g (.tok k e es rs.length :: fr) w := hR
  have h1 := hE s (by simp [Op.operands, Call.operands])
  rw [hs] at h1
  have h2 := hE x (by simp [Op.operands, Call.operands])
  rw [hx] at h2
  obtain ⟨v', g', w', r1, r2, r3, r4⟩ := Rel.append (P := P) hR' h1 (h2.isSl hxs) t tt ie E.zero (slice_of ht hsl) hie hze (by rw [hzs, hsze]) (by rw [hsze, hes]) hpos h63 (by rw [hby]; exact hb)
  refine ⟨v', g', w', _, _, ?_, r2, ?_, r4, rfl, rfl⟩
  · simp only [execOp, resolve, Sem.run_bind, Sem.run_pure, Result.andThen_ok, invoke, builtin, List.map_toArray, List.map_cons, List.map_nil, r1]
  · rw [List.length_append]; exact r3

theorem rd_len {t e : TypeId} {x : Operand} {T : Ty} {xv : AV} {es : Nat} {rs : List AV} (hx : env.val x = xv) (hxs : xv.isSl es rs) (ht : ty P t = some T) (hsl : T.sh = .sl e) : RdS P I ⟨d, .call ⟨.builtin .len, #[x], #[t]⟩, tt, ps, af, gd⟩ env none (.sc (.int .i64 (rs.length : Int))) := by
  refine rd_pure (fun g ac w hE => ?_)
  have h2 := hE x (by simp [Op.operands, Call.operands])
  rw [hx] at h2
  refine ⟨_, ?_, .sc _⟩
  have hu := slice_of ht hsl
  rcases (h2.isSl hxs).row with ⟨⟨a, c, hv, _⟩, rfl⟩ | ⟨b, o, cap, xs, hv, _⟩
  · simp [execOp, resolve, invoke, builtin, hv, Builtin.len_, run_underlying hu, goInt]
  · simp [execOp, resolve, invoke, builtin, hv, Builtin.len_, run_underlying hu, goInt]
theorem str_of {t : TypeId} {T : Ty} (ht : ty P t = some T) (hs : T.sh = .str) : P.underlying t = some .string := by
  obtain ⟨ds, i, hu, hsh, _⟩ := (ty_ok ht).get
  rw [hs] at hsh
  cases ds <;> simp only [shOf, reduceCtorEq] at hsh
  exact hu
theorem rd_lens {t : TypeId} {x : Operand} {T : Ty} {s : ByteArray} (hx : env.val x = .sc (.string s)) (ht : ty P t = some T) (hsl : T.sh = .str) : RdS P I ⟨d, .call ⟨.builtin .len, #[x], #[t]⟩, tt, ps, af, gd⟩ env none (.sc (.int .i64 (s.size : Int))) := by
  refine rd_pure (fun g ac w hE => ?_)
  have h2 := hE x (by simp [Op.operands, Call.operands])
  rw [hx] at h2
  refine ⟨_, ?_, .sc _⟩
  have hu := str_of ht hsl
  simp [execOp, resolve, invoke, builtin, h2.bool, Builtin.len_, run_underlying hu, goInt]
omit [Tys P] in
theorem rd_max {x y : Operand} {ts : Array TypeId} {a b : Int} (hx : env.val x = .sc (.int .i64 a)) (hy : env.val y = .sc (.int .i64 b)) : RdS P I ⟨d, .call ⟨.builtin .max, #[x, y], ts⟩, tt, ps, af, gd⟩ env none (.sc (.int .i64 (if b > a then b else a))) := by
  refine rd_pure (fun g ac w hE => ?_)
  have h1 := hE x (by simp [Op.operands, Call.operands])
  rw [hx] at h1
  have h2 := hE y (by simp [Op.operands, Call.operands])
  rw [hy] at h2
  exact ⟨_, by simp [execOp, resolve, invoke, builtin, h1.bool, h2.bool, Builtin.max_, Builtin.max2], .sc _⟩
omit [Tys P] in
theorem rd_min {x y : Operand} {ts : Array TypeId} {a b : Int} (hx : env.val x = .sc (.int .i64 a)) (hy : env.val y = .sc (.int .i64 b)) : RdS P I ⟨d, .call ⟨.builtin .min, #[x, y], ts⟩, tt, ps, af, gd⟩ env none (.sc (.int .i64 (if b < a then b else a))) := by
  refine rd_pure (fun g ac w hE => ?_)
  have h1 := hE x (by simp [Op.operands, Call.operands])
  rw [hx] at h1
  have h2 := hE y (by simp [Op.operands, Call.operands])
  rw [hy] at h2
  exact ⟨_, by simp [execOp, resolve, invoke, builtin, h1.bool, h2.bool, Builtin.min_, Builtin.min2], .sc _⟩
/-- A piece of a text. -/
theorem rd_cut {t : TypeId} {x : Operand} {lo hi : Option Operand} {T : Ty} {s : ByteArray} {l h : Nat} (hx : env.val x = .sc (.string s)) (ht : ty P t = some T) (hsl : T.sh = .str)
    (hlo : (match lo with | some o => env.val o = .sc (.int .i64 (l : Int)) | none => l = 0)) (hhi : (match hi with | some o => env.val o = .sc (.int .i64 (h : Int)) | none => h = s.size)) (h1 : l ≤ h) (h2 : h ≤ s.size) : RdS P I ⟨d, .slice t x lo hi none, tt, ps, af, gd⟩ env none (.sc (.string (s.extract l h))) := by
  refine rd_pure (fun g ac w hE => ?_)
  have e1 := hE x (by simp [Op.operands, Call.operands])
  rw [hx] at e1
  have hu := str_of ht hsl
  refine ⟨_, ?_, .sc _⟩
  have b1 : (0 : Int) ≤ (l : Int) ∧ (l : Int) ≤ (h : Int) := by omega
  have b2 : (0 : Int) ≤ (h : Int) ∧ (h : Int) ≤ (s.size : Int) := by omega
  cases lo with
  | none =>
    subst hlo
    cases hi with
    | none => subst hhi; simp [execOp, e1.bool, Instr.sliceAt, Instr.slice, Instr.sliceBounds, run_underlying hu]
    | some o =>
      have e2 := hE o (by simp [Op.operands, Call.operands])
      rw [hhi] at e2
      simp [execOp, e1.bool, e2.bool, Instr.sliceAt, Instr.slice, Instr.sliceBounds, Instr.sliceBound, asIntOf, run_underlying hu, h2]
  | some ol =>
    have e3 := hE ol (by simp [Op.operands, Call.operands])
    rw [hlo] at e3
    cases hi with
    | none => subst hhi; simp [execOp, e1.bool, e3.bool, Instr.sliceAt, Instr.slice, Instr.sliceBounds, Instr.sliceBound, asIntOf, run_underlying hu, h1]
    | some o =>
      have e2 := hE o (by simp [Op.operands, Call.operands])
      rw [hhi] at e2
      simp [execOp, e1.bool, e2.bool, e3.bool, Instr.sliceAt, Instr.slice, Instr.sliceBounds, Instr.sliceBound, asIntOf, run_underlying hu, h1, h2]
/-- A piece of a slice. -/
theorem rd_cuts {t e : TypeId} {x : Operand} {lo hi : Option Operand} {T E : Ty} {xv : AV} {es : Nat} {rs : List AV} {l h : Nat} (hx : env.val x = xv) (hxs : xv.isSl es rs) (ht : ty P t = some T) (hsl : T.sh = .sl e) (he : ty P e = some E) (hes : E.size = es)
    (hlo : (match lo with | some o => env.val o = .sc (.int .i64 (l : Int)) | none => l = 0)) (hhi : (match hi with | some o => env.val o = .sc (.int .i64 (h : Int)) | none => h = rs.length)) (h1 : l ≤ h) (h2 : h ≤ rs.length) : RdS P I ⟨d, .slice t x lo hi none, tt, ps, af, gd⟩ env none (.sl es ((rs.take h).drop l)) := by
  obtain ⟨de, ie, _, _, hie, hze, hsze, _⟩ := (ty_ok he).get
  refine rd_pure (fun g ac w hE => ?_)
  have e1 := hE x (by simp [Op.operands, Call.operands])
  rw [hx] at e1
  have hu := slice_of ht hsl
  obtain ⟨a, len, cap, hv, hlen, hcap, hr⟩ := (e1.isSl hxs).sub h1 h2
  subst hlen
  subst hes
  refine ⟨_, ?_, hr⟩
  have b1 : (0 : Int) ≤ (l : Int) ∧ (l : Int) ≤ (h : Int) := by omega
  have b2 : (0 : Int) ≤ (h : Int) ∧ (h : Int) ≤ (cap : Int) := by omega
  cases lo with
  | none =>
    subst hlo
    cases hi with
    | none => subst hhi; simp [execOp, hv, Instr.sliceAt, Instr.slice, Instr.sliceBounds, run_underlying hu, run_size w hie, hsze]
    | some o =>
      have e2 := hE o (by simp [Op.operands, Call.operands])
      rw [hhi] at e2
      simp [execOp, hv, e2.bool, Instr.sliceAt, Instr.slice, Instr.sliceBounds, Instr.sliceBound, asIntOf, run_underlying hu, run_size w hie, hsze, hcap]
  | some ol =>
    have e3 := hE ol (by simp [Op.operands, Call.operands])
    rw [hlo] at e3
    cases hi with
    | none => subst hhi; simp [execOp, hv, e3.bool, Instr.sliceAt, Instr.slice, Instr.sliceBounds, Instr.sliceBound, asIntOf, run_underlying hu, run_size w hie, hsze, h1]
    | some o =>
      have e2 := hE o (by simp [Op.operands, Call.operands])
      rw [hhi] at e2
      simp [execOp, hv, e2.bool, e3.bool, Instr.sliceAt, Instr.slice, Instr.sliceBounds, Instr.sliceBound, asIntOf, run_underlying hu, run_size w hie, hsze, h1, hcap]
theorem rd_iface {t : TypeId} {x : Operand} {T : Ty} {v : AV} (hx : env.val x = v) (ht : ty P t = some T) (hsl : T.sh.isIfc = false) : RdS P I ⟨d, .makeInterface t x, tt, ps, af, gd⟩ env none (.ic t v) := by
  obtain ⟨ds, i, hu, hsh, _⟩ := (ty_ok ht).get
  refine rd_pure (fun g ac w hE => ?_)
  have e1 := hE x (by simp [Op.operands, Call.operands])
  rw [hx] at e1
  refine ⟨_, ?_, .ic t _ _ e1⟩
  cases ds <;> first | (simp [execOp, Instr.makeInterface, run_underlying hu]; done) | (rw [← hsh] at hsl; cases hsl)
end
/-- A value that is known whole. -/
inductive Conc : AV → Value → Prop
  | sc (v : Value) : Conc (.sc v) v
  | ag0 : Conc (.ag []) (.agg #[])
  | ag1 (a : Value) : Conc (.ag [.sc a]) (.agg #[a])
  | ag2 (a b : Value) : Conc (.ag [.sc a, .sc b]) (.agg #[a, b])
theorem Conc.eq {g : Gh} {w : World} {v u : Value} {x : AV} (hc : Conc x u) (h : VR g w v x) : v = u := by
  cases hc with
  | sc => exact h.bool
  | ag0 => cases h with | ag xs cs hl h h3 => rw [show xs = #[] from Array.eq_empty_of_size_eq_zero hl]
  | ag1 a =>
    cases h with
    | ag xs cs hl h h3 =>
      have h0 := (h 0 _ _ (Array.getElem?_eq_getElem (by rw [hl]; simp)) rfl).bool
      congr 1
      apply Array.ext (by simpa using hl)
      intro i h1 h2
      have : i = 0 := by simp at h2; omega
      subst this
      exact h0
  | ag2 a b =>
    cases h with
    | ag xs cs hl h h3 =>
      have h0 := (h 0 _ _ (Array.getElem?_eq_getElem (by rw [hl]; simp)) rfl).bool
      have h1 := (h 1 _ _ (Array.getElem?_eq_getElem (by rw [hl]; simp)) rfl).bool
      congr 1
      apply Array.ext (by simpa using hl)
      intro i g1 g2
      have : i = 0 ∨ i = 1 := by simp at g2; omega
      rcases this with rfl | rfl
      · exact h0
      · exact h1
section
variable {P : Program} {I : World → Prop} {env : Env} {σ : List Rs} {d : Option Tmp} {tt : TypeId} {ps : String} {af : Array Edge} {gd : Option (Nat × Bool)}
theorem ef_throw {x : Operand} {t : TypeId} {v : AV} {u : Value} (hx : env.val x = .ic t v) (hc : Conc v u) : EfS P I ⟨d, .panic x, tt, ps, af, gd⟩ env [] (fun _ _ => False) (fun c τ' => c = [{ v := .iface t u, recovered := false }] ∧ τ' = []) := by
  constructor
  intro w0 g a w fr hI hR hE
  have e1 := hE x (by simp [Op.operands, Call.operands])
  rw [hx] at e1
  generalize hav : a.eval x = av at e1
  cases e1 with
  | ic _ v' _ h =>
    have := hc.eq h
    subst this
    have hrun : (execOp a.eval ⟨d, .panic x, tt, ps, af, gd⟩).run P w = .halt (.panic (.iface t v')) w := by simp [execOp, hav, Instr.panic, goPanic]
    unfold Oper.wp
    rw [hrun]
    exact ⟨_, g, [], rfl, rfl, Ext.refl g w, hR, rfl, rfl⟩
theorem rd_nilCheck {x : Operand} {a : Addr} (hx : env.val x = .sc (.pointer (some a))) : RdS P I ⟨d, .nilCheck x, tt, ps, af, gd⟩ env none (.sc (.pointer (some a))) := by
  refine rd_pure (fun g ac w hE => ?_)
  have e1 := hE x (by simp [Op.operands, Call.operands])
  rw [hx] at e1
  exact ⟨_, by simp [execOp, e1.bool], .sc _⟩
end
end Go.Dp
