/- Deep values: a logic of states without addresses, part 2. Conditions: none. -/
import Derived.Test.YtjcocblohiglbaaGreatDoorD1
import Derived.MapKept
import Derived.DeepKeys3
import Derived.Laws.IdiomStrings
import Derived.Lib.AppendStr
/- Deep values: functions entered and left. Conditions: none. -/
namespace Go.Dp
open Go.RowKit
set_option linter.unusedVariables false
def argEnv : Nat → List AV → Env
  | _, [] => []
  | i, a :: l => (i, a) :: argEnv (i + 1) l
theorem argEnv_get : ∀ (l : List AV) (i t : Nat), (argEnv i l).get t = .un ∨ ∃ j, t = i + j ∧ l[j]? = some ((argEnv i l).get t)
  | [], i, t => .inl rfl
  | a :: l, i, t => by
    show (bif Nat.beq i t then a else (argEnv (i + 1) l).get t) = .un ∨ ∃ j, t = i + j ∧ (a :: l)[j]? = some (bif Nat.beq i t then a else (argEnv (i + 1) l).get t)
    cases hb : Nat.beq i t with
    | true => exact .inr ⟨0, by rw [Nat.eq_of_beq_eq_true hb]; rfl, rfl⟩
    | false =>
      rcases argEnv_get l (i + 1) t with h | ⟨j, h1, h2⟩
      · exact .inl h
      · exact .inr ⟨j + 1, by omega, by simpa using h2⟩
/-- What a result variable holds. -/
inductive ResV (P : Program) [Tys P] (env : Env) (σ : List Rs) : ResultVar → AV → Prop
  | tmp (t : Tmp) (x : AV) (h : env.get t = x) : ResV P env σ (.tmp t) x
  | cell (a : Tmp) (t : TypeId) (b : Nat) (cs : List AV) (te : TypeId) (T : Ty) (x : AV) (h : env.get a = .sc (.pointer (some ⟨b, 0, none⟩))) (hb : Rs.box b cs te ∈ σ) (ht : ty P t = some T) (hsh : T.sh.agg = false) (hx : cs[0]? = some x) : ResV P env σ (.cell a t) x
  | cells (a : Tmp) (t : TypeId) (b : Nat) (cs : List AV) (te : TypeId) (T : Ty) (h : env.get a = .sc (.pointer (some ⟨b, 0, none⟩))) (hb : Rs.box b cs te ∈ σ) (ht : ty P t = some T) (hsh : T.sh.agg = true) (hx : cs.length = T.size) (h1 : ones cs = true) : ResV P env σ (.cell a t) (.ag cs)
inductive ResVs (P : Program) [Tys P] (env : Env) (σ : List Rs) : List ResultVar → List AV → Prop
  | nil : ResVs P env σ [] []
  | cons (r : ResultVar) (rs : List ResultVar) (x : AV) (xs : List AV) (h : ResV P env σ r x) (hs : ResVs P env σ rs xs) : ResVs P env σ (r :: rs) (x :: xs)
def oneOf : List AV → AV
  | [x] => x
  | xs => .tu xs
def Post (P : Program) [Tys P] (fn : Func) (R : Out → List Rs → Prop) : Exit → Env → List Rs → Prop
  | .normal, env, σ | .ret, env, σ => ∃ xs τ dr, ResVs P env σ fn.results.toList xs ∧ σ.Perm (τ ++ dr) ∧ R (.ret (oneOf xs)) τ
  | .panic c, env, σ => ∃ τ dr, σ.Perm (τ ++ dr) ∧ R (.pan c) τ
  | _, _, _ => False
def resSem (tmps : Array Value) : ResultVar → Sem Value
  | .tmp t => pure (tmps.getD t undef)
  | .cell c t => do loadVar t (← asAddr (tmps.getD c undef))
theorem results_sem (fn : Func) (tmps : Array Value) : results fn tmps = (do
    let vs ← fn.results.mapM (resSem tmps)
    pure (if h : vs.size = 1 then vs[0] else .tuple vs)) := by
  unfold results
  congr 2
section
variable {P : Program} [Tys P] {I : World → Prop}
theorem resV_run {g : Gh} {w w0 : World} {fr σ : List Rs} {N : Nat} {a : Act} {env : Env} (hR : Rel w0 g (σ ++ fr) w) (hE : EnvR g w N a env) {r : ResultVar} {x : AV} (h : ResV P env σ r x) :
    ∃ v, (resSem a.tmps r).run P w = .ok v w ∧ VR g w v x := by
  cases h with
  | tmp t x h => exact ⟨_, rfl, h ▸ hE.val t⟩
  | cell c t b cs te T x h hb ht hsh hx =>
    obtain ⟨ds, i, hu, hs, _⟩ := (ty_ok ht).get
    obtain ⟨vs, fz, h1, _, h2, _⟩ := box_in hR (List.mem_append_left fr hb)
    obtain ⟨u, hu1, hu2⟩ := h2.get hx
    have he := hE.val c
    rw [h] at he
    have hc : w.cell? ⟨b, 0, none⟩ = some u := by rw [cell_of_row w b 0 vs te fz h1]; simpa using hu1
    have := run_isAgg (P := P) w hu
    rw [agg_of hs, hsh] at this
    exact ⟨u, by simp [resSem, he.bool, asAddr, loadVar, this, hc], hu2⟩
  | cells c t b cs te T h hb ht hsh hx h1 =>
    obtain ⟨ds, i, hu, hs, hi, _, hsz, _⟩ := (ty_ok ht).get
    obtain ⟨vs, fz, g1, _, g2, _⟩ := box_in hR (List.mem_append_left fr hb)
    have he := hE.val c
    rw [h] at he
    have hl : vs.size = T.size := by have := g2.1; rw [hx] at this; simpa using this
    have := loadAgg (P := P) (n := T.size) (o := 0) (vs := vs) g1 hu (by rw [agg_of hs]; exact hsh) hi hsz (by omega)
    rw [List.drop_zero, List.take_of_length_le (by simp [hl])] at this
    exact ⟨.agg vs, by simp only [resSem, he.bool, asAddr, Sem.run_bind, Sem.run_pure, Result.andThen_ok, this, Array.toArray_toList], by
      have := g2.agg (ones_mem h1)
      rwa [Array.toArray_toList] at this⟩
theorem resVs_run {g : Gh} {w w0 : World} {fr σ : List Rs} {N : Nat} {a : Act} {env : Env} (hR : Rel w0 g (σ ++ fr) w) (hE : EnvR g w N a env) : ∀ {rs : List ResultVar} {xs : List AV}, ResVs P env σ rs xs →
    ∃ vs, (rs.mapM (resSem a.tmps)).run P w = .ok vs w ∧ VRs g w vs xs
  | [], _, .nil => ⟨[], by simp, VRs.nil g w⟩
  | r :: rs, _, .cons _ _ x xs h hs => by
    obtain ⟨v, h1, h2⟩ := resV_run hR hE h
    obtain ⟨vs, h3, h4⟩ := resVs_run hR hE hs
    refine ⟨v :: vs, ?_, VRs.cons h2 h4⟩
    rw [List.mapM_cons]
    simp only [Sem.run_bind, h1, h3, Result.andThen_ok, Sem.run_pure]
theorem results_run {g : Gh} {w w0 : World} {fr σ : List Rs} {N : Nat} {a : Act} {env : Env} (hR : Rel w0 g (σ ++ fr) w) (hE : EnvR g w N a env) {fn : Func} {xs : List AV} (h : ResVs P env σ fn.results.toList xs) :
    ∃ v, (results fn a.tmps).run P w = .ok v w ∧ VR g w v (oneOf xs) := by
  obtain ⟨vs, h1, h2⟩ := resVs_run hR hE h
  have hm : (fn.results.mapM (resSem a.tmps)).run P w = .ok vs.toArray w := by
    simp [Array.mapM_eq_mapM_toList, h1]
  rw [results_sem]
  simp only [Sem.run_bind, hm, Result.andThen_ok, Sem.run_pure]
  refine ⟨_, rfl, ?_⟩
  split
  · rename_i hsz
    match vs, xs, h2, hsz with
    | [v], [x], h2, _ => exact h2.2 0 v x rfl rfl
    | [v], [], h2, _ => exact absurd h2.1 (by simp)
    | [v], _ :: _ :: _, h2, _ => exact absurd h2.1 (by simp)
  · rename_i hsz
    match vs, xs, h2, hsz with
    | [v], [x], h2, hsz => exact absurd (by simp) hsz
    | [], [], h2, _ => exact h2.tup
    | _, _ :: _ :: _, h2, _ => exact h2.tup
    | [], [x], h2, _ => exact absurd h2.1 (by simp)
    | _ :: _ :: _, [x], h2, _ => exact absurd h2.1 (by simp)
    | _ :: _, [], h2, _ => exact absurd h2.1 (by simp)
/-- A function is walked. -/
theorem sim_body {f : FuncId} {fn : Func} {c : Code} {args : List AV} {τ : List Rs} {R : Out → List Rs → Prop} (hf : P.funcs[f]? = some fn) (hname : (fn.name == "runtime.NumGoroutine") = false) (hb : fn.body = some c) (hn : Nat.ble args.length fn.ntmps = true)
    (h : AW P I fn.ntmps c (Post P fn R) (argEnv 0 args) τ) : Sim P I f args τ R := by
  refine ⟨⟨fn, c, hf, hname, hb⟩, fun w0 g w fr vs hI hR hv => calls_of_wp hf hb ?_⟩
  have hE : EnvR g w fn.ntmps { tmps := vs.toArray ++ Array.replicate (fn.ntmps - vs.toArray.size) undef, defers := [] } (argEnv 0 args) := by
    refine ⟨?_, rfl, fun t => ?_⟩
    · have := hv.1
      have hn := Nat.le_of_ble_eq_true hn
      simp; omega
    · rcases argEnv_get args 0 t with e | ⟨j, e1, e2⟩
      · rw [e]; exact .un _
      · rw [Nat.zero_add] at e1
        subst e1
        obtain ⟨v, h1, h2⟩ := hv.get e2
        have hlt : t < vs.length := (List.getElem?_eq_some_iff.1 h1).1
        rw [Array.getD_eq_getD_getElem?, Array.getElem?_append_left (by simpa using hlt)]
        simp only [List.getElem?_toArray, h1, Option.getD_some]
        exact h2
  refine wp_mono (h.run w0 g w g _ w fr hI (Ext.refl g w) hR hE) ?_
  rintro e a' w' ⟨g', env', σ', x1, x2, x3, x4⟩
  cases e with
  | normal =>
    obtain ⟨xs, τ', dr, r1, r2, r3⟩ := x4
    obtain ⟨v, v1, v2⟩ := results_run x2 x3 r1
    refine ⟨x3.defers, v, v1, g', τ', .ret (oneOf xs), x1, ?_, v2, r3⟩
    refine (x2.perm (r2.append_right fr)).sub ?_
    rw [List.append_assoc]
    exact List.Sublist.append_left (List.sublist_append_right _ _) _
  | ret =>
    obtain ⟨xs, τ', dr, r1, r2, r3⟩ := x4
    obtain ⟨v, v1, v2⟩ := results_run x2 x3 r1
    refine ⟨x3.defers, v, v1, g', τ', .ret (oneOf xs), x1, ?_, v2, r3⟩
    refine (x2.perm (r2.append_right fr)).sub ?_
    rw [List.append_assoc]
    exact List.Sublist.append_left (List.sublist_append_right _ _) _
  | panic c =>
    obtain ⟨τ', dr, r2, r3⟩ := x4
    refine ⟨x3.defers, g', τ', .pan c, x1, ?_, rfl, r3⟩
    refine (x2.perm (r2.append_right fr)).sub ?_
    rw [List.append_assoc]
    exact List.Sublist.append_left (List.sublist_append_right _ _) _
  | exit id => exact x4.elim
  | goto l => exact x4.elim
  | outgrown => exact x4.elim
end
end Go.Dp
/- Deep values: the rules of a walk. Conditions: none. -/
namespace Go.Dp
open Go.RowKit
set_option linter.unusedVariables false
/-- One resource, found. -/
inductive Pick (x : Rs) : List Rs → List Rs → Prop
  | here (l : List Rs) : Pick x (x :: l) l
  | there (y : Rs) (l l' : List Rs) (h : Pick x l l') : Pick x (y :: l) (y :: l')
theorem Pick.perm {x : Rs} {l l' : List Rs} (h : Pick x l l') : l.Perm (x :: l') := by
  induction h with
  | here l => exact List.Perm.refl _
  | there y l l' h ih => exact (ih.cons y).trans (List.Perm.swap _ _ _)
theorem Pick.mem {x : Rs} {l l' : List Rs} (h : Pick x l l') : x ∈ l := h.perm.mem_iff.2 (List.mem_cons_self ..)
/-- Resources, found. -/
inductive Picks : List Rs → List Rs → List Rs → Prop
  | nil (l : List Rs) : Picks [] l l
  | cons (x : Rs) (xs l l1 l2 : List Rs) (h : Pick x l l1) (hs : Picks xs l1 l2) : Picks (x :: xs) l l2
theorem Picks.perm {xs l l' : List Rs} (h : Picks xs l l') : l.Perm (xs ++ l') := by
  induction h with
  | nil l => exact List.Perm.refl _
  | cons x xs l l1 l2 h hs ih => exact h.perm.trans (ih.cons x)
theorem wn_on {ops : Array Oper} {env : Env} {o : Oper} {j : Nat} {want : Bool} {oj : Oper} {d : Tmp} (h : o.guard = some (j, want)) (hj : ops[j]? = some oj) (hd : oj.dst = some d) (hv : env.get d = .sc (.bool want)) : Wn ops env o true := by
  have := Wn.some (ops := ops) (env := env) (o := o) j want oj d want h hj hd hv
  simpa using this
theorem wn_off {ops : Array Oper} {env : Env} {o : Oper} {j : Nat} {want : Bool} {oj : Oper} {d : Tmp} (h : o.guard = some (j, want)) (hj : ops[j]? = some oj) (hd : oj.dst = some d) (hv : env.get d = .sc (.bool (!want))) : Wn ops env o false := by
  have := Wn.some (ops := ops) (env := env) (o := o) j want oj d (!want) h hj hd hv
  cases want <;> simpa using this
section
variable {P : Program} {I : World → Prop} {N : Nat} {ops : Array Oper} {md : Md} {Q : Exit → Env → List Rs → Prop} {H : List (Nat × Option Rs)} {i : Nat} {c : List Nat} {env : Env} {σ : List Rs} {o : Oper}
/-- An operation, looked up; whether it is wanted is to be said. -/
structure At (P : Program) (I : World → Prop) (N : Nat) (ops : Array Oper) (md : Md) (Q : Exit → Env → List Rs → Prop) (H : List (Nat × Option Rs)) (i : Nat) (c : List Nat) (o : Oper) (env : Env) (σ : List Rs) : Prop where
  der : ops[i]? = some o → Wn ops env o true → dstOk N o.dst = true → Der P I N ops md Q H (i :: c) env σ
theorem d_skip (ho : ops[i]? = some o) (hw : Wn ops env o false) (hd : dstOk N o.dst = true) (hm : md.okR i = true) (k : Der P I N ops md Q H c (env.put o.dst (.sc undef)) σ) : Der P I N ops md Q H (i :: c) env σ := .skip H i c o env σ ho hd hw hm k
theorem Der.more {H' : List (Nat × Option Rs)} (h : Der P I N ops md Q H c env σ) (hH : ∀ q r, (q, some r) ∈ H' → (q, some r) ∈ H) : Der P I N ops md Q H' c env σ := h.congr hH fun _ => rfl
theorem at_rd {v : AV} (hs : RdS P I o env none v) (hm : md.okR i = true) (k : Der P I N ops md Q H c (env.put o.dst v) σ) : At P I N ops md Q H i c o env σ :=
  ⟨fun ho hw hd => .rd H i c o env σ none v ho hd hw hs (fun x h => by cases h) hm (k.more fun q r h => by
    rcases List.mem_cons.1 h with h | h
    · cases h
    · exact h)⟩
theorem at_rdb {v : AV} {r : Rs} (hs : RdS P I o env (some r) v) {l : List Rs} (hp : Pick r σ l) (hm : md.okR i = true) (k : Der P I N ops md Q ((i, some r) :: H) c (env.put o.dst v) σ) : At P I N ops md Q H i c o env σ :=
  ⟨fun ho hw hd => .rd H i c o env σ (some r) v ho hd hw hs (fun x h => by cases h; exact hp.mem) hm k⟩
/-- In the order of the text nothing has to be kept. -/
theorem Der.free {H' : List (Nat × Option Rs)} (h : Der P I N ops seqMd Q H c env σ) : Der P I N ops seqMd Q H' c env σ := by
  induction h generalizing H' with
  | nil H env σ σ' hσ h => exact .nil _ _ _ σ' hσ h
  | al H i c o e env σ ho he hd hg hs hm k ih => cases hm
  | skip H i c o env σ ho hd hw hm k ih => exact .skip _ i c o _ _ ho hd hw hm ih
  | rd H i c o env σ r v ho hd hw hs hr hm k ih => exact .rd _ i c o _ _ r v ho hd hw hs hr hm ih
  | ef H i c o env σ τ σ1 R RP ho hd hw hs hσ hk hm k1 k2 ih => exact .ef _ i c o _ _ τ σ1 R RP ho hd hw hs hσ (keepOk_iff.2 fun q r _ hu => by cases hu) hm (fun x τ' hx => ih x τ' hx) k2
theorem at_rds {v : AV} {r : Rs} (hs : RdS P I o env (some r) v) {l : List Rs} (hp : Pick r σ l) (k : Der P I N ops seqMd Q [] c (env.put o.dst v) σ) : At P I N ops seqMd Q [] i c o env σ :=
  at_rdb hs hp rfl k.free
theorem at_ef {τ σ1 : List Rs} {R : AV → List Rs → Prop} {RP : List PanicEntry → List Rs → Prop} (hs : EfS P I o env τ R RP) (hp : Picks τ σ σ1) (hk : keepOk md i σ1 H) (hm : md.okE i = true)
    (k1 : ∀ x τ', R x τ' → Der P I N ops md Q H c (env.put o.dst x) (τ' ++ σ1)) (k2 : ∀ c τ', RP c τ' → ∀ env', Q (.panic c) env' (τ' ++ σ1)) : At P I N ops md Q H i c o env σ :=
  ⟨fun ho hw hd => .ef H i c o env σ τ σ1 R RP ho hd hw hs hp.perm hk hm k1 fun c τ' hc => ⟨τ' ++ σ1, [], by rw [List.append_nil], k2 c τ' hc⟩⟩
/-! The end of a region -/
theorem d_nil {y : Code} {Q0 : Exit → Env → List Rs → Prop} (hq : ∀ env' σ', Q .normal env' σ' = AW P I N y Q0 env' σ') (k : AW P I N y Q0 env σ) : Der P I N ops md Q H [] env σ :=
  .nil H env σ σ (List.Perm.refl _) fun env' he => by
    rw [hq]
    exact aw_less (fun t => .inl (he t).symm) k
theorem d_end (k : ∀ env' : Env, (∀ t, env'.get t = env.get t) → Q .normal env' σ) : Der P I N ops md Q H [] env σ := .nil H env σ σ (List.Perm.refl _) k
end
section
variable {P : Program} [Tys P] {I : World → Prop} {N : Nat} {ops : Array Oper} {md : Md} {Q : Exit → Env → List Rs → Prop} {H : List (Nat × Option Rs)} {i : Nat} {c : List Nat} {env : Env} {σ σ1 : List Rs} {d : Option Tmp} {tt : TypeId} {ps : String} {af : Array Edge} {gd : Option (Nat × Bool)}
/-! A step that tells its outcome by cases: comparisons are decided at once. -/
omit [Tys P] in
theorem at_cmp {op : BinOp} {t u : TypeId} {x y : Operand} {K : IntKind} {a b : Int} {p : Prop} [Decidable p] (hx : env.val x = .sc (.int K a)) (hy : env.val y = .sc (.int K b)) (hr : cmpI op a b = some (decide p)) (hm : md.okR i = true)
    (k1 : p → Der P I N ops md Q H c (env.put d (.sc (.bool true))) σ) (k2 : ¬ p → Der P I N ops md Q H c (env.put d (.sc (.bool false))) σ) : At P I N ops md Q H i c ⟨d, .binOp op t x y u, tt, ps, af, gd⟩ env σ := by
  refine at_rd (rd_cmp hx hy hr) hm ?_
  by_cases h : p
  · rw [decide_eq_true h]; exact k1 h
  · rw [decide_eq_false h]; exact k2 h
omit [Tys P] in
theorem at_cmps {op : BinOp} {t u : TypeId} {x y : Operand} {a b : ByteArray} {p : Prop} [Decidable p] (hx : env.val x = .sc (.string a)) (hy : env.val y = .sc (.string b)) (hr : cmpS op a b = some (decide p)) (hm : md.okR i = true)
    (k1 : p → Der P I N ops md Q H c (env.put d (.sc (.bool true))) σ) (k2 : ¬ p → Der P I N ops md Q H c (env.put d (.sc (.bool false))) σ) : At P I N ops md Q H i c ⟨d, .binOp op t x y u, tt, ps, af, gd⟩ env σ := by
  refine at_rd (rd_cmps hx hy hr) hm ?_
  by_cases h : p
  · rw [decide_eq_true h]; exact k1 h
  · rw [decide_eq_false h]; exact k2 h
omit [Tys P] in
theorem rd_pick {x y z : Operand} {t : Bool} (hx : env.val x = .sc (.bool t)) : RdS P I ⟨d, .pick x y z, tt, ps, af, gd⟩ env none (bif t then env.val y else env.val z) := by
  refine rd_pure (fun g a w hE => ?_)
  have e1 := hE x (by simp [Op.operands])
  rw [hx] at e1
  cases t with
  | true => exact ⟨a.eval y, by simp [execOp, e1.bool, asBool], hE y (by simp [Op.operands])⟩
  | false => exact ⟨a.eval z, by simp [execOp, e1.bool, asBool], hE z (by simp [Op.operands])⟩
theorem at_store {t : TypeId} {x y : Operand} {T : Ty} {b o : Nat} {cs : List AV} {te : TypeId} {v : AV} (hx : env.val x = .sc (.pointer (some ⟨b, o, none⟩))) (hp : Pick (.box b cs te) σ σ1) (ht : ty P t = some T)
    (hv : env.val y = v) (h1 : ones v.cells = true) (hl : v.cells.length = T.size) (hle : Nat.ble (o + T.size) cs.length = true) (hk : keepOk md i σ1 H) (hm : md.okE i = true)
    (k : Der P I N ops md Q H c (env.put d .un) (.box b (over cs o v.cells) te :: σ1)) : At P I N ops md Q H i c ⟨d, .store t x y, tt, ps, af, gd⟩ env σ :=
  at_ef (ef_store hx ht hv h1 hl hle) (.cons _ _ _ _ _ hp (.nil _)) hk hm (fun x τ' hx => by
    obtain ⟨rfl, rfl⟩ := hx
    exact k) (fun c τ' h => h.elim)
theorem at_alloc {e : TypeId} {T : Ty} (ht : ty P e = some T) (h1 : T.zero.cells.toList.all Value.oneCell' = true) (hk : keepOk md i σ H) (hm : md.okE i = true)
    (k : ∀ b, Der P I N ops md Q H c (env.put d (.sc (.pointer (some ⟨b, 0, none⟩)))) (.box b T.zl e :: σ)) : At P I N ops md Q H i c ⟨d, .alloc e, tt, ps, af, gd⟩ env σ :=
  at_ef (ef_alloc ht h1) (.nil _) hk hm (fun x τ' hx => by
    obtain ⟨b, rfl, rfl⟩ := hx
    rw [(ty_ok ht).zl]
    exact k b) (fun c τ' h => h.elim)
omit [Tys P] in
theorem at_box {e : TypeId} {x : Operand} {v : AV} (hv : env.val x = v) (h1 : ones v.cells = true) (hk : keepOk md i σ H) (hm : md.okE i = true)
    (k : ∀ b, Der P I N ops md Q H c (env.put d (.sc (.pointer (some ⟨b, 0, none⟩)))) (.box b v.cells e :: σ)) : At P I N ops md Q H i c ⟨d, .box e x, tt, ps, af, gd⟩ env σ :=
  at_ef (ef_box hv h1) (.nil _) hk hm (fun x τ' hx => by
    obtain ⟨b, rfl, rfl⟩ := hx
    exact k b) (fun c τ' h => h.elim)
theorem at_buildSlice {t e : TypeId} {len es : Nat} {parts : Array (Nat × Operand)} {T E : Ty} {aparts : List (Nat × AV)} {cs rs : List AV} (ht : ty P t = some T) (hs : T.sh = .sl e) (he : ty P e = some E) (hes : E.size = es) (hp : parts.toList.map (fun p => (p.1, env.val p.2)) = aparts)
    (hpos : Nat.blt 0 (len * es) = true) (hle : Nat.ble (len * es) 16777216 = true)
    (hf : afill (fun i => some (i * es, es)) ((List.range (len * es)).map fun j => .sc (E.zero.cells[j % E.zero.cells.size]!)) aparts = some cs) (h1 : (aparts.all fun p => ones p.2.cells) = true) (h2 : ones cs = true) (hlen : cs.length = len * es)
    (hrs : rs = chop es E.sh.agg cs len) (hag : (E.sh.agg || (Nat.beq es 1 && cs.all AV.single)) = true) (hk : keepOk md i σ H) (hm : md.okE i = true)
    (k : ∀ b, Der P I N ops md Q H c (env.put d (.os b es rs)) (.tok b e es rs.length :: σ)) : At P I N ops md Q H i c ⟨d, .buildSlice t len parts, tt, ps, af, gd⟩ env σ :=
  at_ef (ef_buildSlice ht hs he hes hp hpos hle hf h1 h2 hlen hrs hag) (.nil _) hk hm (fun x τ' hx => by
    obtain ⟨b, rfl, rfl⟩ := hx
    exact k b) (fun c τ' h => h.elim)
theorem at_append {t e : TypeId} {s x : Operand} {T E : Ty} {k es : Nat} {rs ys : List AV} {xv : AV} (hs : env.val s = .os k es rs) (hx : env.val x = xv) (hxs : xv.isSl es ys) (ht : ty P t = some T) (hsl : T.sh = .sl e) (he : ty P e = some E) (hes : E.size = es) (hzs : E.zero.cells.size = E.size) (hpos : Nat.blt 0 es = true)
    (hp : Pick (.tok k e es rs.length) σ σ1) (h63 : rs.length + ys.length ≤ maxLen) (hb : (rs.length + ys.length) * E.bytes ≤ 140737488355328) (hk : keepOk md i σ1 H) (hm : md.okE i = true)
    (kk : Der P I N ops md Q H c (env.put d (.os k es (rs ++ ys))) (.tok k e es (rs ++ ys).length :: σ1)) : At P I N ops md Q H i c ⟨d, .call ⟨.builtin .append, #[s, x], #[t, t]⟩, tt, ps, af, gd⟩ env σ :=
  at_ef (ef_append hs hx hxs ht hsl he hes hzs hpos h63 hb) (.cons _ _ _ _ _ hp (.nil _)) hk hm (fun x τ' hx => by
    obtain ⟨rfl, rfl⟩ := hx
    exact kk) (fun c τ' h => h.elim)
omit [Tys P] in
theorem at_throw {x : Operand} {t : TypeId} {v : AV} {u : Value} (hx : env.val x = .ic t v) (hc : Conc v u) (hk : keepOk md i σ H) (hm : md.okE i = true) (k : ∀ env', Q (.panic [{ v := .iface t u, recovered := false }]) env' σ) : At P I N ops md Q H i c ⟨d, .panic x, tt, ps, af, gd⟩ env σ :=
  at_ef (ef_throw hx hc) (.nil _) hk hm (fun x τ' h => h.elim) (fun c τ' h env' => by
    obtain ⟨rfl, rfl⟩ := h
    exact k env')
omit [Tys P] in
theorem at_call {f : FuncId} {as : Array Operand} {ts : Array TypeId} {args : List AV} {τ : List Rs} {R : Out → List Rs → Prop} (hs : Sim P I f args τ R) (ha : as.toList.map env.val = args) (hp : Picks τ σ σ1) (hk : keepOk md i σ1 H) (hm : md.okE i = true)
    (k1 : ∀ x τ', R (.ret x) τ' → Der P I N ops md Q H c (env.put d x) (τ' ++ σ1)) (k2 : ∀ c τ', R (.pan c) τ' → ∀ env', Q (.panic c) env' (τ' ++ σ1)) : At P I N ops md Q H i c ⟨d, .call ⟨.value (.func f), as, ts⟩, tt, ps, af, gd⟩ env σ :=
  at_ef (ef_call hs ha) hp hk hm k1 k2
omit [Tys P] in
theorem at_callv {f : FuncId} {x : Operand} {as : Array Operand} {ts : Array TypeId} {args fs cs : List AV} {τ : List Rs} {R : Out → List Rs → Prop} (hx : env.val x = .fn (.func f) fs cs) (hs : Sim P I f args τ R) (ha : fs ++ as.toList.map env.val ++ cs = args) (hp : Picks τ σ σ1) (hk : keepOk md i σ1 H) (hm : md.okE i = true)
    (k1 : ∀ x τ', R (.ret x) τ' → Der P I N ops md Q H c (env.put d x) (τ' ++ σ1)) (k2 : ∀ c τ', R (.pan c) τ' → ∀ env', Q (.panic c) env' (τ' ++ σ1)) : At P I N ops md Q H i c ⟨d, .call ⟨.value x, as, ts⟩, tt, ps, af, gd⟩ env σ :=
  at_ef (ef_callv hx hs ha) hp hk hm k1 k2
end
end Go.Dp
/- Deep values: the steps of a walk, with what decides them. Conditions: none. -/
namespace Go.Dp
open Go.RowKit
set_option linter.unusedVariables false
/-- A cell replaced. -/
inductive SetC (v : AV) : List AV → Nat → List AV → Prop
  | here (x : AV) (l : List AV) : SetC v (x :: l) 0 (v :: l)
  | there (x : AV) (l l' : List AV) (o : Nat) (h : SetC v l o l') : SetC v (x :: l) (o + 1) (x :: l')
theorem SetC.over {v : AV} {l l' : List AV} {o : Nat} (h : SetC v l o l') : over l o [v] = l' ∧ o + 1 ≤ l.length := by
  induction h with
  | here x l => exact ⟨by simp [Go.Dp.over], by simp⟩
  | there x l l' o h ih =>
    obtain ⟨h1, h2⟩ := ih
    refine ⟨?_, by simpa using h2⟩
    rw [← h1]
    simp [Go.Dp.over]
section
variable {P : Program} {I : World → Prop} {N : Nat} {ops : Array Oper} {md : Md} {Q : Exit → Env → List Rs → Prop} {H : List (Nat × Option Rs)} {i : Nat} {c : List Nat} {env : Env} {σ σ1 : List Rs} {o : Oper} {d : Option Tmp} {op : Op} {tt : TypeId} {ps : String} {af : Array Edge} {gd : Option (Nat × Bool)}
theorem s_at (k : At P I N ops md Q H i c o env σ) (ho : ops[i]? = some o := by rfl) (hw : Wn ops env o true := by first | exact Go.Dp.Wn.none rfl | exact Go.Dp.wn_on rfl rfl rfl rfl) (hd : dstOk N o.dst = true := by rfl) : Der P I N ops md Q H (i :: c) env σ := k.der ho hw hd
theorem s_off {j : Nat} {want : Bool} {oj : Oper} {e : Tmp} (k : Der P I N ops md Q H c (env.put d (.sc undef)) σ) (ho : ops[i]? = some ⟨d, op, tt, ps, af, some (j, want)⟩ := by rfl) (hj : ops[j]? = some oj := by rfl) (he : oj.dst = some e := by rfl) (hv : env.get e = .sc (.bool (!want)) := by rfl) (hd : dstOk N d = true := by rfl) (hm : md.okR i = true := by rfl) :
    Der P I N ops md Q H (i :: c) env σ := d_skip ho (wn_off (o := ⟨d, op, tt, ps, af, some (j, want)⟩) rfl hj he hv) hd hm k
theorem undef_ne (b : Bool) : undef ≠ Value.bool b := by intro h; cases h
/-- The operation that is asked first was not made. -/
theorem s_offn {j : Nat} {want : Bool} {oj : Oper} {e : Tmp} (k : Der P I N ops md Q H c (env.put d (.sc undef)) σ) (ho : ops[i]? = some ⟨d, op, tt, ps, af, some (j, want)⟩ := by rfl) (hj : ops[j]? = some oj := by rfl) (he : oj.dst = some e := by rfl) (hv : env.get e = .sc undef := by rfl) (hd : dstOk N d = true := by rfl) (hm : md.okR i = true := by rfl) :
    Der P I N ops md Q H (i :: c) env σ := d_skip ho (.off j want oj e undef rfl hj he hv (undef_ne want)) hd hm k
theorem s_nil {y : Code} {Q0 : Exit → Env → List Rs → Prop} (k : AW P I N y Q0 env σ) (hq : ∀ env' σ', Q .normal env' σ' = AW P I N y Q0 env' σ' := by exact fun _ _ => rfl) : Der P I N ops md Q H [] env σ := d_nil hq k
theorem s_move {x : Operand} {v : AV} (k : Der P I N ops md Q H c (env.put d v) σ) (hv : env.val x = v := by first | exact (rfl : _ = Go.Dp.AV.sc _) | exact (rfl : _ = Go.Dp.AV.ag _) | exact (rfl : _ = Go.Dp.AV.sl _ _) | exact (rfl : _ = Go.Dp.AV.os _ _ _) | exact (rfl : _ = Go.Dp.AV.ep _) | exact (rfl : _ = Go.Dp.AV.fn _ _ _) | exact (rfl : _ = Go.Dp.AV.tu _) | exact (rfl : _ = Go.Dp.AV.ic _ _) | rfl) (hm : md.okR i = true := by rfl) :
    At P I N ops md Q H i c ⟨d, .move x, tt, ps, af, gd⟩ env σ := at_rd (hv ▸ rd_move) hm k
theorem s_assign {x : Operand} {v : AV} (k : Der P I N ops md Q H c (env.put d v) σ) (hv : env.val x = v := by first | exact (rfl : _ = Go.Dp.AV.sc _) | exact (rfl : _ = Go.Dp.AV.ag _) | exact (rfl : _ = Go.Dp.AV.sl _ _) | exact (rfl : _ = Go.Dp.AV.os _ _ _) | exact (rfl : _ = Go.Dp.AV.ep _) | exact (rfl : _ = Go.Dp.AV.fn _ _ _) | exact (rfl : _ = Go.Dp.AV.tu _) | exact (rfl : _ = Go.Dp.AV.ic _ _) | rfl) (hm : md.okR i = true := by rfl) :
    At P I N ops md Q H i c ⟨d, .assign x, tt, ps, af, gd⟩ env σ := at_rd (hv ▸ rd_assign) hm k
end
section
variable {P : Program} [Tys P] {I : World → Prop} {N : Nat} {ops : Array Oper} {md : Md} {Q : Exit → Env → List Rs → Prop} {H : List (Nat × Option Rs)} {i : Nat} {c : List Nat} {env : Env} {σ σ1 : List Rs} {d : Option Tmp} {tt : TypeId} {ps : String} {af : Array Edge} {gd : Option (Nat × Bool)}
/-- What is read of a variable. -/
inductive Ld (P : Program) [Tys P] (σ : List Rs) (b o : Nat) (t : TypeId) : AV → Rs → Prop
  | one (cs : List AV) (te : TypeId) (T : Ty) (l : List Rs) (v : AV) (hp : Pick (.box b cs te) σ l) (ht : ty P t = some T) (hs : T.sh.agg = false) (hv : cs[o]? = some v) : Ld P σ b o t v (.box b cs te)
  | all (cs : List AV) (te : TypeId) (T : Ty) (l : List Rs) (hp : Pick (.box b cs te) σ l) (ht : ty P t = some T) (hs : T.sh.agg = true) (ho : o = 0) (hn : cs.length = T.size) (h1 : ones cs = true) : Ld P σ b o t (.ag cs) (.box b cs te)
  | part (cs : List AV) (te : TypeId) (T : Ty) (l : List Rs) (hp : Pick (.box b cs te) σ l) (ht : ty P t = some T) (hs : T.sh.agg = true) (hn : ((cs.drop o).take T.size).length = T.size) (h1 : ones ((cs.drop o).take T.size) = true) : Ld P σ b o t (.ag ((cs.drop o).take T.size)) (.box b cs te)
theorem Ld.rd {b o : Nat} {t : TypeId} {v : AV} {r : Rs} (h : Ld P σ b o t v r) {x : Operand} (hx : env.val x = .sc (.pointer (some ⟨b, o, none⟩))) : RdS P I ⟨d, .load t x, tt, ps, af, gd⟩ env (some r) v ∧ ∃ l, Pick r σ l := by
  cases h with
  | one cs te T l v hp ht hs hv => exact ⟨rd_load hx ht hs hv, l, hp⟩
  | all cs te T l hp ht hs ho hn h1 =>
    subst ho
    exact ⟨rd_loads hx ht hs (by rw [List.drop_zero, List.take_of_length_le (by omega)]) hn h1, l, hp⟩
  | part cs te T l hp ht hs hn h1 => exact ⟨rd_loads hx ht hs rfl hn h1, l, hp⟩
theorem s_load {t : TypeId} {x : Operand} {b o : Nat} {v : AV} {r : Rs} (k : Der P I N ops seqMd Q [] c (env.put d v) σ) (hx : env.val x = .sc (.pointer (some ⟨b, o, none⟩)) := by rfl)
    (hl : Ld P σ b o t v r := by first
      | (apply Go.Dp.Ld.one; (repeat (first | exact Go.Dp.Pick.here _ | apply Go.Dp.Pick.there)); rfl; rfl; rfl)
      | (apply Go.Dp.Ld.all; (repeat (first | exact Go.Dp.Pick.here _ | apply Go.Dp.Pick.there)); rfl; rfl; rfl; rfl; (first | rfl | simp only [Go.Dp.ones, List.all_cons, List.all_nil, Bool.and_true, Go.Dp.one_int, Go.Dp.one_bool, Go.Dp.one_str, Go.Dp.one_ptr, Go.Dp.one_slice, Go.Dp.one_sl, Go.Dp.one_os, *]))
      | (apply Go.Dp.Ld.part; (repeat (first | exact Go.Dp.Pick.here _ | apply Go.Dp.Pick.there)); rfl; rfl; rfl; rfl)) :
    At P I N ops seqMd Q [] i c ⟨d, .load t x, tt, ps, af, gd⟩ env σ := by
  obtain ⟨h1, l, h2⟩ := hl.rd (I := I) (d := d) (tt := tt) (ps := ps) (af := af) (gd := gd) hx
  exact at_rds h1 h2 k
theorem s_loadd {t : TypeId} {x : Operand} {b o : Nat} {v : AV} {r : Rs} (k : Der P I N ops md Q ((i, some r) :: H) c (env.put d v) σ) (hx : env.val x = .sc (.pointer (some ⟨b, o, none⟩)) := by rfl)
    (hl : Ld P σ b o t v r := by first
      | (apply Go.Dp.Ld.one; (repeat (first | exact Go.Dp.Pick.here _ | apply Go.Dp.Pick.there)); rfl; rfl; rfl)
      | (apply Go.Dp.Ld.all; (repeat (first | exact Go.Dp.Pick.here _ | apply Go.Dp.Pick.there)); rfl; rfl; rfl; rfl; (first | rfl | simp only [Go.Dp.ones, List.all_cons, List.all_nil, Bool.and_true, Go.Dp.one_int, Go.Dp.one_bool, Go.Dp.one_str, Go.Dp.one_ptr, Go.Dp.one_slice, Go.Dp.one_sl, Go.Dp.one_os, *]))
      | (apply Go.Dp.Ld.part; (repeat (first | exact Go.Dp.Pick.here _ | apply Go.Dp.Pick.there)); rfl; rfl; rfl; rfl)) (hm : md.okR i = true := by rfl) :
    At P I N ops md Q H i c ⟨d, .load t x, tt, ps, af, gd⟩ env σ := by
  obtain ⟨h1, l, h2⟩ := hl.rd (I := I) (d := d) (tt := tt) (ps := ps) (af := af) (gd := gd) hx
  exact at_rdb h1 h2 hm k
/-- What is read of an element. -/
inductive Le (P : Program) [Tys P] (cs : List AV) (t : TypeId) : AV → Prop
  | one (T : Ty) (v : AV) (ht : ty P t = some T) (hs : T.sh.agg = false) (hv : cs[0]? = some v) : Le P cs t v
  | all (T : Ty) (ht : ty P t = some T) (hs : T.sh.agg = true) (hn : cs.length = T.size) (h1 : ones cs = true) : Le P cs t (.ag cs)
  | part (T : Ty) (ht : ty P t = some T) (hs : T.sh.agg = true) (hn : (cs.take T.size).length = T.size) (h1 : ones (cs.take T.size) = true) : Le P cs t (.ag (cs.take T.size))
theorem s_loade {t : TypeId} {x : Operand} {cs : List AV} {v : AV} (k : Der P I N ops md Q H c (env.put d v) σ) (hx : env.val x = .ep cs := by rfl)
    (hl : Le P cs t v := by first | (apply Go.Dp.Le.one; rfl; rfl; rfl) | (apply Go.Dp.Le.all; rfl; rfl; rfl; (first | rfl | simp only [Go.Dp.ones, List.all_cons, List.all_nil, Bool.and_true, Go.Dp.one_int, Go.Dp.one_bool, Go.Dp.one_str, Go.Dp.one_ptr, Go.Dp.one_slice, Go.Dp.one_sl, Go.Dp.one_os, *])) | (apply Go.Dp.Le.part; rfl; rfl; rfl; rfl)) (hm : md.okR i = true := by rfl) : At P I N ops md Q H i c ⟨d, .load t x, tt, ps, af, gd⟩ env σ := by
  refine at_rd ?_ hm k
  cases hl with
  | one T v ht hs hv => exact rd_loade hx ht hs hv
  | all T ht hs hn h1 => exact rd_loades hx ht hs (List.take_of_length_le (by omega)) hn h1
  | part T ht hs hn h1 => exact rd_loades hx ht hs rfl hn h1
theorem s_store {t : TypeId} {x y : Operand} {T : Ty} {b o : Nat} {cs cs' : List AV} {te : TypeId} {v : AV} (k : Der P I N ops md Q H c (env.put d .un) (.box b cs' te :: σ1)) (hx : env.val x = .sc (.pointer (some ⟨b, o, none⟩)) := by rfl) (hp : Pick (.box b cs te) σ σ1) (ht : ty P t = some T)
    (hv : env.val y = v) (h1 : v.single = true) (h2 : v.one = true) (hl : T.size = 1) (hc : SetC v cs o cs') (hk : keepOk md i σ1 H) (hm : md.okE i = true) : At P I N ops md Q H i c ⟨d, .store t x y, tt, ps, af, gd⟩ env σ := by
  obtain ⟨e1, e2⟩ := hc.over
  have e3 := AV.single_cells h1
  refine at_store hx hp ht hv (by rw [e3]; simp [ones, h2]) (by rw [e3, hl]; rfl) (by rw [hl]; exact Nat.ble_eq_true_of_le e2) hk hm ?_
  rw [e3, e1]
  exact k
/-- A whole struct is written. -/
theorem s_stores {t : TypeId} {x y : Operand} {T : Ty} {b : Nat} {cs cs' : List AV} {te : TypeId} (k : Der P I N ops md Q H c (env.put d .un) (.box b cs' te :: σ1)) (hx : env.val x = .sc (.pointer (some ⟨b, 0, none⟩)) := by rfl) (hp : Pick (.box b cs te) σ σ1) (ht : ty P t = some T)
    (hv : env.val y = .ag cs') (h1 : ones cs' = true) (hl : cs'.length = T.size) (hc : cs.length = T.size) (hk : keepOk md i σ1 H) (hm : md.okE i = true) : At P I N ops md Q H i c ⟨d, .store t x y, tt, ps, af, gd⟩ env σ := by
  refine at_store hx hp ht hv h1 hl (by rw [hc]; simp) hk hm ?_
  have : over cs 0 (AV.ag cs').cells = cs' := by
    show cs.take 0 ++ cs' ++ cs.drop (0 + cs'.length) = cs'
    rw [List.take_zero, List.nil_append, Nat.zero_add, List.drop_of_length_le (by omega), List.append_nil]
  rw [this]
  exact k
end
end Go.Dp
/- Deep values: more steps. Conditions: none. -/
namespace Go.Dp
open Go.RowKit
set_option linter.unusedVariables false
set_option linter.unusedSimpArgs false
/-! ### Structs and slices, as they are written -/
inductive Bld (places : List (Nat × Nat)) (env : Env) : List (Nat × Operand) → List AV → List AV → Prop
  | nil (cs : List AV) : Bld places env [] cs cs
  | cons (i : Nat) (x : Operand) (off : Nat) (v : AV) (cs cs1 res : List AV) (rest : List (Nat × Operand)) (hp : places[i]? = some (off, 1)) (hv : env.val x = v) (h1 : v.single = true) (h2 : v.one = true) (hs : SetC v cs off cs1) (hr : Bld places env rest cs1 res) : Bld places env ((i, x) :: rest) cs res
  | agg (i : Nat) (x : Operand) (off n : Nat) (cs' cs cs1 res : List AV) (rest : List (Nat × Operand)) (hp : places[i]? = some (off, n)) (hv : env.val x = .ag cs') (hl : cs'.length = n) (h1 : ones cs' = true) (hle : Nat.ble (off + n) cs.length = true) (hs : over cs off cs' = cs1) (hr : Bld places env rest cs1 res) : Bld places env ((i, x) :: rest) cs res
theorem Bld.fill {places : List (Nat × Nat)} {env : Env} {parts : List (Nat × Operand)} {cs res : List AV} (h : Bld places env parts cs res) : afill (places[·]?) cs (parts.map fun p => (p.1, env.val p.2)) = some res ∧ (∀ p, p ∈ parts.map (fun p => (p.1, env.val p.2)) → ∀ y, y ∈ p.2.cells → y.one = true) ∧ ((∀ y, y ∈ cs → y.one = true) → ∀ y, y ∈ res → y.one = true) := by
  induction h with
  | nil cs => exact ⟨rfl, (fun p h => by cases h), fun h => h⟩
  | agg i x off n cs' cs cs1 res rest hp hv hl h1 hle hs hr ih =>
    obtain ⟨i1, i2, i3⟩ := ih
    have hle := Nat.le_of_ble_eq_true hle
    have h1 := List.all_eq_true.1 h1
    refine ⟨?_, ?_, fun h => i3 fun y hy => ?_⟩
    · rw [List.map_cons]
      simp only [afill, hp, hv, AV.cells, hl, true_and, if_pos hle, hs]
      exact i1
    · intro p hp' y hy
      rw [List.map_cons] at hp'
      rcases List.mem_cons.1 hp' with rfl | hp'
      · rw [hv] at hy
        exact h1 y hy
      · exact i2 p hp' y hy
    · rw [← hs] at hy
      unfold over at hy
      rcases List.mem_append.1 hy with hy | hy
      · rcases List.mem_append.1 hy with hy | hy
        · exact h y (List.mem_of_mem_take hy)
        · exact h1 y hy
      · exact h y (List.mem_of_mem_drop hy)
  | cons i x off v cs cs1 res rest hp hv h1 h2 hs hr ih =>
    obtain ⟨e1, e2⟩ := hs.over
    have e3 := AV.single_cells h1
    obtain ⟨i1, i2, i3⟩ := ih
    refine ⟨?_, ?_, fun h => i3 fun y hy => ?_⟩
    · rw [List.map_cons]
      simp only [afill, hp, hv, e3, List.length_singleton, true_and, if_pos e2, e1]
      exact i1
    · intro p hp' y hy
      rw [List.map_cons] at hp'
      rcases List.mem_cons.1 hp' with rfl | hp'
      · rw [hv, e3, List.mem_singleton] at hy
        rw [hy]; exact h2
      · exact i2 p hp' y hy
    · rw [← e1] at hy
      unfold over at hy
      rcases List.mem_append.1 hy with hy | hy
      · rcases List.mem_append.1 hy with hy | hy
        · exact h y (List.mem_of_mem_take hy)
        · rw [List.mem_singleton] at hy; rw [hy]; exact h2
      · exact h y (List.mem_of_mem_drop hy)
/-- The elements of a slice literal, all of them given. -/
inductive Elts (env : Env) (es : Nat) : Nat → List (Nat × Operand) → List AV → Prop
  | nil (k : Nat) : Elts env es k [] []
  | cons (k : Nat) (x : Operand) (v : AV) (rest : List (Nat × Operand)) (vs : List AV) (hv : env.val x = v) (hl : v.cells.length = es) (h1 : ones v.cells = true) (hr : Elts env es (k + 1) rest vs) : Elts env es k ((k, x) :: rest) (v :: vs)
theorem Elts.fill {env : Env} {es : Nat} {parts : List (Nat × Operand)} {vs : List AV} {k : Nat} (h : Elts env es k parts vs) : ∀ (pre post : List AV), pre.length = k * es → post.length = vs.length * es →
    afill (fun i => some (i * es, es)) (pre ++ post) (parts.map fun p => (p.1, env.val p.2)) = some (pre ++ vs.flatMap AV.cells) ∧ (∀ p, p ∈ parts.map (fun p => (p.1, env.val p.2)) → ∀ y, y ∈ p.2.cells → y.one = true) ∧ (∀ v, v ∈ vs → v.cells.length = es ∧ ∀ y, y ∈ v.cells → y.one = true) := by
  induction h with
  | nil k =>
    intro pre post h1 h2
    have : post = [] := List.eq_nil_of_length_eq_zero (by simpa using h2)
    subst this
    exact ⟨rfl, (fun p h => by cases h), (fun v h => by cases h)⟩
  | cons k x v rest vs hv hl h1 hr ih =>
    intro pre post hp hq
    have hes : es ≤ post.length := by rw [hq, List.length_cons, Nat.add_mul]; omega
    obtain ⟨i1, i2, i3⟩ := ih (pre ++ v.cells) (post.drop es) (by rw [List.length_append, hp, hl, Nat.add_mul, Nat.one_mul]) (by rw [List.length_drop, hq, List.length_cons, Nat.add_mul, Nat.one_mul]; omega)
    refine ⟨?_, fun p hp' y hy => ?_, fun u hu => ?_⟩
    · rw [List.map_cons]
      simp only [afill, hv]
      have hov : over (pre ++ post) (k * es) v.cells = (pre ++ v.cells) ++ post.drop es := by
        unfold over
        rw [← hp, List.take_left, hl, List.drop_append]
        simp
      rw [if_pos ⟨hl, by rw [List.length_append, hp, hl]; omega⟩, hov, i1]
      simp [List.append_assoc]
    · rw [List.map_cons] at hp'
      rcases List.mem_cons.1 hp' with rfl | hp'
      · rw [hv] at hy; exact ones_mem h1 y hy
      · exact i2 p hp' y hy
    · rcases List.mem_cons.1 hu with rfl | hu
      · exact ⟨hl, ones_mem h1⟩
      · exact i3 u hu
theorem chop_agg (es : Nat) : ∀ (vs : List AV), (∀ v, v ∈ vs → ∃ cs, v = .ag cs ∧ cs.length = es) → chop es true (vs.flatMap AV.cells) vs.length = vs
  | [], _ => rfl
  | v :: vs, h => by
    obtain ⟨cs, rfl, hl⟩ := h v (List.mem_cons_self ..)
    have ih := chop_agg es vs (fun u hu => h u (List.mem_cons_of_mem _ hu))
    show chop es true (cs ++ vs.flatMap AV.cells) (vs.length + 1) = _
    rw [chop, if_pos rfl, ← hl, List.take_left, List.drop_left, hl, ih]
theorem chop_one : ∀ (vs : List AV), (∀ v, v ∈ vs → v.cells = [v]) → chop 1 false (vs.flatMap AV.cells) vs.length = vs
  | [], _ => rfl
  | v :: vs, h => by
    have e := h v (List.mem_cons_self ..)
    have ih := chop_one vs (fun u hu => h u (List.mem_cons_of_mem _ hu))
    show chop 1 false (v.cells ++ vs.flatMap AV.cells) (vs.length + 1) = _
    rw [e, chop]
    simp [ih]
theorem flat_len (es : Nat) : ∀ (vs : List AV), (∀ v, v ∈ vs → v.cells.length = es) → (vs.flatMap AV.cells).length = vs.length * es
  | [], _ => by simp
  | v :: vs, h => by
    rw [List.flatMap_cons, List.length_append, h v (List.mem_cons_self ..), flat_len es vs (fun u hu => h u (List.mem_cons_of_mem _ hu)), List.length_cons, Nat.add_mul, Nat.one_mul, Nat.add_comm]
def aggs (es : Nat) (vs : List AV) : Bool := vs.all fun v => match v with | .ag cs => Nat.beq cs.length es | _ => false
section
variable {P : Program} [Tys P] {I : World → Prop} {N : Nat} {ops : Array Oper} {md : Md} {Q : Exit → Env → List Rs → Prop} {H : List (Nat × Option Rs)} {i : Nat} {c : List Nat} {env : Env} {σ σ1 : List Rs} {d : Option Tmp} {tt : TypeId} {ps : String} {af : Array Edge} {gd : Option (Nat × Bool)}
theorem rd_buildc {t : TypeId} {parts : Array (Nat × Operand)} {T : Ty} {cs : List AV} (ht : ty P t = some T) (hst : (match T.sh with | .st _ => true | _ => false) = true) (hpos : (T.sh.places.all fun p => Nat.blt 0 p.2) = true) (hz : T.zero.cells.toList.all Value.oneCell' = true)
    (hb : Bld T.sh.places env parts.toList T.zl cs) : RdS P I ⟨d, .build t parts, tt, ps, af, gd⟩ env none (.ag cs) := by
  rw [← (ty_ok ht).zl] at hb
  obtain ⟨h1, h2, h3⟩ := hb.fill
  refine rd_build ht rfl hst hpos h1 ?_ ?_
  · rw [List.all_eq_true]
    exact fun p hp => List.all_eq_true.2 (h2 p hp)
  · refine List.all_eq_true.2 (h3 fun y hy => ?_)
    obtain ⟨u, hu, rfl⟩ := List.mem_map.1 hy
    exact List.all_eq_true.1 hz u hu
theorem s_slice {t e : TypeId} {len es : Nat} {parts : Array (Nat × Operand)} {T E : Ty} {vs : List AV} (k : ∀ b, Der P I N ops md Q H c (env.put d (.os b es vs)) (.tok b e es vs.length :: σ)) (ht : ty P t = some T) (hs : T.sh = .sl e) (he : ty P e = some E) (hes : E.size = es) (hv : Elts env es 0 parts.toList vs) (hlen : vs.length = len)
    (hpos : Nat.blt 0 (len * es) = true) (hle : Nat.ble (len * es) 16777216 = true) (hag : (bif E.sh.agg then aggs es vs else (Nat.beq es 1 && vs.all AV.single)) = true) (hk : keepOk md i σ H) (hm : md.okE i = true) : At P I N ops md Q H i c ⟨d, .buildSlice t len parts, tt, ps, af, gd⟩ env σ := by
  obtain ⟨f1, f2, f3⟩ := hv.fill [] ((List.range (len * es)).map fun j => .sc (E.zero.cells[j % E.zero.cells.size]!)) (by simp) (by simp [hlen])
  rw [List.nil_append, List.nil_append] at f1
  have hones : ones (vs.flatMap AV.cells) = true := List.all_eq_true.2 fun y hy => by
    obtain ⟨v, h1, h2⟩ := List.mem_flatMap.1 hy
    exact (f3 v h1).2 y h2
  have hl : (vs.flatMap AV.cells).length = len * es := by
    rw [← hlen]
    exact flat_len es vs fun v hv => (f3 v hv).1
  refine at_buildSlice ht hs he hes rfl hpos hle f1 ?_ hones hl ?_ ?_ hk hm k
  · rw [List.all_eq_true]
    exact fun p hp => List.all_eq_true.2 (f2 p hp)
  · rw [← hlen]
    cases ha : E.sh.agg with
    | true =>
      rw [ha, cond_true] at hag
      refine (chop_agg es vs fun v hv => ?_).symm
      have := List.all_eq_true.1 hag v hv
      cases v <;> first | exact ⟨_, rfl, Nat.eq_of_beq_eq_true this⟩ | cases this
    | false =>
      rw [ha, cond_false, Bool.and_eq_true] at hag
      have h1 := Nat.eq_of_beq_eq_true hag.1
      subst h1
      exact (chop_one vs fun v hv => AV.single_cells (List.all_eq_true.1 hag.2 v hv)).symm
  · cases ha : E.sh.agg with
    | true => rfl
    | false =>
      rw [ha, cond_false, Bool.and_eq_true] at hag
      rw [Bool.false_or, Bool.and_eq_true]
      refine ⟨hag.1, List.all_eq_true.2 fun y hy => ?_⟩
      obtain ⟨v, h1, h2⟩ := List.mem_flatMap.1 hy
      have h3 := List.all_eq_true.1 hag.2 v h1
      rw [AV.single_cells h3, List.mem_singleton] at h2
      rw [h2]; exact h3
end
end Go.Dp
/- Deep values: the steps, gathered. Conditions: none. -/
namespace Go.Dp
open Go.RowKit
set_option linter.unusedVariables false
section
variable {P : Program} [Tys P] {I : World → Prop} {N : Nat} {ops : Array Oper} {md : Md} {Q : Exit → Env → List Rs → Prop} {H : List (Nat × Option Rs)} {i : Nat} {c : List Nat} {env : Env} {σ σ1 : List Rs} {d : Option Tmp} {op : Op} {tt : TypeId} {ps : String} {af : Array Edge} {gd : Option (Nat × Bool)}
omit [Tys P] in
theorem aw_true {cd : Operand} {x y : Code} (k : AW P I N x Q env σ) (hc : env.val cd = .sc (.bool true) := by rfl) : AW P I N (.cond cd x y) Q env σ := aw_cond hc (fun _ => k) (fun h => by cases h)
omit [Tys P] in
theorem aw_false {cd : Operand} {x y : Code} (k : AW P I N y Q env σ) (hc : env.val cd = .sc (.bool false) := by rfl) : AW P I N (.cond cd x y) Q env σ := aw_cond hc (fun h => by cases h) (fun _ => k)
theorem s_draw {id : Nat} (effs : List Nat) (k : Der P I N ops (drawMd ops effs) Q [] (List.range ops.size) env σ) (hok : orderOk ops effs (List.range ops.size) = true := by decide +kernel) (hal : alOk P N ops = true := by decide +kernel) : AW P I N (.region id ops true) Q env σ := aw_draw _ effs Tys.mix (alOk_spec hal) hok k
/-- In an order of one's own. -/
theorem s_drawc {id : Nat} (c effs : List Nat) (k : Der P I N ops (drawMd ops effs) Q [] c env σ) (hok : orderOk ops effs c = true := by decide +kernel) (hal : alOk P N ops = true := by decide +kernel) : AW P I N (.region id ops true) Q env σ := aw_draw c effs Tys.mix (alOk_spec hal) hok k
theorem rd_fieldAddr0 {t : TypeId} {x : Operand} {T : Ty} {f b off size : Nat} {ag : Option Bool} {fs : List (Nat × Nat × Option Bool)} (hx : env.val x = .sc (.pointer (some ⟨b, 0, none⟩))) (ht : ty P t = some T) (hs : T.sh = .st fs) (hf : fs[f]? = some (off, size, ag)) (hz : Nat.blt 0 size = true) :
    RdS P I ⟨d, .fieldAddr t x f, tt, ps, af, gd⟩ env none (.sc (.pointer (some ⟨b, off, none⟩))) := by
  have := rd_fieldAddr (P := P) (I := I) (d := d) (tt := tt) (ps := ps) (af := af) (gd := gd) hx ht hs hf hz
  rwa [Nat.zero_add] at this

omit [Tys P] in
theorem s_pure {v : AV} (k : Der P I N ops md Q H c (env.put d v) σ)
    (hs : RdS P I ⟨d, op, tt, ps, af, gd⟩ env none v := by first
      | exact Go.Dp.rd_fieldAddr0 rfl rfl rfl rfl rfl
      | exact Go.Dp.rd_fieldAddre rfl rfl rfl rfl rfl
      | exact Go.Dp.rd_nilCheck rfl
      | exact Go.Dp.rd_unot rfl
      | exact Go.Dp.rd_extract rfl rfl
      | exact Go.Dp.rd_len rfl (Go.Dp.isSl_sl _ _) rfl rfl
      | exact Go.Dp.rd_len rfl (Go.Dp.isSl_os _ _ _) rfl rfl
      | exact Go.Dp.rd_len rfl (Go.Dp.isSl_nil 0) rfl rfl
      | exact Go.Dp.rd_lens rfl rfl rfl
      | exact Go.Dp.rd_max rfl rfl
      | exact Go.Dp.rd_min rfl rfl
      | exact Go.Dp.rd_field rfl rfl rfl rfl rfl rfl
      | exact Go.Dp.rd_makeFunc rfl rfl
      | (apply Go.Dp.rd_iface; (first | exact (rfl : _ = Go.Dp.AV.ag _) | exact (rfl : _ = Go.Dp.AV.sc _)); rfl; rfl)
      | (apply Go.Dp.rd_buildc rfl rfl rfl rfl; (repeat (first | exact Go.Dp.Bld.nil _ | (apply Go.Dp.Bld.cons; rfl; (first | exact (rfl : _ = Go.Dp.AV.sc _) | exact (rfl : _ = Go.Dp.AV.os _ _ _) | exact (rfl : _ = Go.Dp.AV.sl _ _) | exact (rfl : _ = Go.Dp.AV.fn _ _ _) | rfl); rfl; rfl; (repeat (first | exact Go.Dp.SetC.here _ _ | apply Go.Dp.SetC.there))) | (apply Go.Dp.Bld.agg; rfl; exact (rfl : _ = Go.Dp.AV.ag _); rfl; (first | rfl | simp only [Go.Dp.ones, List.all_cons, List.all_nil, Bool.and_true, Go.Dp.one_int, Go.Dp.one_bool, Go.Dp.one_str, Go.Dp.one_ptr, Go.Dp.one_slice, Go.Dp.one_sl, Go.Dp.one_os, *]); rfl; rfl)))))
    (hm : md.okR i = true := by rfl) : At P I N ops md Q H i c ⟨d, op, tt, ps, af, gd⟩ env σ := at_rd hs hm k
omit [Tys P] in
theorem s_pick1 {x y z : Operand} {v : AV} (k : Der P I N ops md Q H c (env.put d v) σ) (hx : env.val x = .sc (.bool true) := by rfl) (hv : env.val y = v := by first | exact (rfl : _ = Go.Dp.AV.sc _) | exact (rfl : _ = Go.Dp.AV.ag _) | exact (rfl : _ = Go.Dp.AV.sl _ _) | exact (rfl : _ = Go.Dp.AV.os _ _ _) | exact (rfl : _ = Go.Dp.AV.ep _) | exact (rfl : _ = Go.Dp.AV.fn _ _ _) | exact (rfl : _ = Go.Dp.AV.tu _) | exact (rfl : _ = Go.Dp.AV.ic _ _) | rfl) (hm : md.okR i = true := by rfl) : At P I N ops md Q H i c ⟨d, .pick x y z, tt, ps, af, gd⟩ env σ := by
  subst hv
  exact at_rd (rd_pick hx) hm k
omit [Tys P] in
theorem s_pick0 {x y z : Operand} {v : AV} (k : Der P I N ops md Q H c (env.put d v) σ) (hx : env.val x = .sc (.bool false) := by rfl) (hv : env.val z = v := by first | exact (rfl : _ = Go.Dp.AV.sc _) | exact (rfl : _ = Go.Dp.AV.ag _) | exact (rfl : _ = Go.Dp.AV.sl _ _) | exact (rfl : _ = Go.Dp.AV.os _ _ _) | exact (rfl : _ = Go.Dp.AV.ep _) | exact (rfl : _ = Go.Dp.AV.fn _ _ _) | exact (rfl : _ = Go.Dp.AV.tu _) | exact (rfl : _ = Go.Dp.AV.ic _ _) | rfl) (hm : md.okR i = true := by rfl) : At P I N ops md Q H i c ⟨d, .pick x y z, tt, ps, af, gd⟩ env σ := by
  subst hv
  exact at_rd (rd_pick hx) hm k
omit [Tys P] in
theorem s_cmp {bo : BinOp} {t u : TypeId} {x y : Operand} {K : IntKind} {a b : Int} {p : Prop} [dp : Decidable p] (k1 : p → Der P I N ops md Q H c (env.put d (.sc (.bool true))) σ) (k2 : ¬ p → Der P I N ops md Q H c (env.put d (.sc (.bool false))) σ)
    (hx : env.val x = .sc (.int K a) := by rfl) (hy : env.val y = .sc (.int K b) := by rfl) (hr : cmpI bo a b = some (@decide p dp) := by rfl) (hm : md.okR i = true := by rfl) : At P I N ops md Q H i c ⟨d, .binOp bo t x y u, tt, ps, af, gd⟩ env σ := at_cmp hx hy hr hm k1 k2
omit [Tys P] in
theorem s_cmps {bo : BinOp} {t u : TypeId} {x y : Operand} {a b : ByteArray} {p : Prop} [dp : Decidable p] (k1 : p → Der P I N ops md Q H c (env.put d (.sc (.bool true))) σ) (k2 : ¬ p → Der P I N ops md Q H c (env.put d (.sc (.bool false))) σ)
    (hx : env.val x = .sc (.string a) := by rfl) (hy : env.val y = .sc (.string b) := by rfl) (hr : cmpS bo a b = some (@decide p dp) := by rfl) (hm : md.okR i = true := by rfl) : At P I N ops md Q H i c ⟨d, .binOp bo t x y u, tt, ps, af, gd⟩ env σ := at_cmps hx hy hr hm k1 k2
omit [Tys P] in
theorem s_add {t u : TypeId} {x y : Operand} {a b : Int} (k : Der P I N ops md Q H c (env.put d (.sc (.int .i64 (a + b)))) σ) (hx : env.val x = .sc (.int .i64 a) := by rfl) (hy : env.val y = .sc (.int .i64 b) := by rfl) (h1 : -9223372036854775808 ≤ a + b := by omega) (h2 : a + b ≤ 9223372036854775807 := by omega) (hm : md.okR i = true := by rfl) :
    At P I N ops md Q H i c ⟨d, .binOp .add t x y u, tt, ps, af, gd⟩ env σ := at_rd (rd_add hx hy h1 h2) hm k
omit [Tys P] in
theorem s_sub {t u : TypeId} {x y : Operand} {a b : Int} (k : Der P I N ops md Q H c (env.put d (.sc (.int .i64 (a - b)))) σ) (hx : env.val x = .sc (.int .i64 a) := by rfl) (hy : env.val y = .sc (.int .i64 b) := by rfl) (h1 : -9223372036854775808 ≤ a - b := by omega) (h2 : a - b ≤ 9223372036854775807 := by omega) (hm : md.okR i = true := by rfl) :
    At P I N ops md Q H i c ⟨d, .binOp .sub t x y u, tt, ps, af, gd⟩ env σ := at_rd (rd_sub hx hy h1 h2) hm k
omit [Tys P] in
theorem s_concat {t u : TypeId} {x y : Operand} {a b : ByteArray} (hs : a.size + b.size ≤ 9223372036854775807) (k : Der P I N ops md Q H c (env.put d (.sc (.string (a ++ b)))) σ) (hx : env.val x = .sc (.string a) := by rfl) (hy : env.val y = .sc (.string b) := by rfl) (hm : md.okR i = true := by rfl) :
    At P I N ops md Q H i c ⟨d, .binOp .add t x y u, tt, ps, af, gd⟩ env σ := at_rd (rd_concat hx hy hs) hm k
/-- An element's address, where the place is known. -/
theorem s_elem {t e : TypeId} {x ix : Operand} {T E : Ty} {s : AV} {es : Nat} {rs : List AV} {v : AV} {n : Int} (j : Nat) (hk : rs[j]? = some v) (k : Der P I N ops md Q H c (env.put d (.ep v.cells)) σ)
    (hx : env.val x = s := by first | exact (rfl : _ = Go.Dp.AV.sl _ _) | exact (rfl : _ = Go.Dp.AV.os _ _ _)) (hsl : s.isSl es rs := by first | exact Go.Dp.isSl_sl _ _ | exact Go.Dp.isSl_os _ _ _) (hi : env.val ix = .sc (.int .i64 n) := by rfl) (ht : ty P t = some T := by rfl) (hs : T.sh = .sl e := by rfl) (he : ty P e = some E := by rfl) (hes : E.size = es := by rfl) (hn : n = (j : Int) := by omega) (hm : md.okR i = true := by rfl) :
    At P I N ops md Q H i c ⟨d, .indexAddr t x ix, tt, ps, af, gd⟩ env σ := at_rd (rd_indexAddr hx hsl hi hn hk ht hs he hes) hm k
omit [Tys P] in
theorem s_box {e : TypeId} {x : Operand} {cs : List AV} (k : ∀ b, Der P I N ops md Q H c (env.put d (.sc (.pointer (some ⟨b, 0, none⟩)))) (.box b cs e :: σ)) (hv : env.val x = .ag cs := by rfl) (h1 : ones cs = true := by (first | rfl | simp only [Go.Dp.ones, List.all_cons, List.all_nil, Bool.and_true, Go.Dp.one_int, Go.Dp.one_bool, Go.Dp.one_str, Go.Dp.one_ptr, Go.Dp.one_slice, Go.Dp.one_sl, Go.Dp.one_os, *])) (hk : keepOk md i σ H := by exact trivial) (hm : md.okE i = true := by rfl) : At P I N ops md Q H i c ⟨d, .box e x, tt, ps, af, gd⟩ env σ := at_box hv h1 hk hm k
omit [Tys P] in
theorem s_box1 {e : TypeId} {x : Operand} {v : AV} (k : ∀ b, Der P I N ops md Q H c (env.put d (.sc (.pointer (some ⟨b, 0, none⟩)))) (.box b [v] e :: σ))
    (hv : env.val x = v := by first | exact (rfl : _ = Go.Dp.AV.sc _) | exact (rfl : _ = Go.Dp.AV.sl _ _) | exact (rfl : _ = Go.Dp.AV.os _ _ _) | exact (rfl : _ = Go.Dp.AV.fn _ _ _)) (h1 : v.single = true := by rfl) (h2 : v.one = true := by rfl) (hk : keepOk md i σ H := by exact trivial) (hm : md.okE i = true := by rfl) : At P I N ops md Q H i c ⟨d, .box e x, tt, ps, af, gd⟩ env σ := by
  have e1 := AV.single_cells h1
  exact at_box hv (by rw [e1]; simp [ones, h2]) hk hm (by rw [e1]; exact k)
theorem s_alloc {e : TypeId} {T : Ty} (k : ∀ b, Der P I N ops md Q H c (env.put d (.sc (.pointer (some ⟨b, 0, none⟩)))) (.box b T.zl e :: σ)) (ht : ty P e = some T := by rfl) (h1 : T.zero.cells.toList.all Value.oneCell' = true := by rfl) (hk : keepOk md i σ H := by exact trivial) (hm : md.okE i = true := by rfl) : At P I N ops md Q H i c ⟨d, .alloc e, tt, ps, af, gd⟩ env σ := at_alloc ht h1 hk hm k
omit [Tys P] in
theorem s_throw {x : Operand} {t : TypeId} {v : AV} {u : Value} (hc : Conc v u) (k : ∀ env', Q (.panic [{ v := .iface t u, recovered := false }]) env' σ) (hx : env.val x = .ic t v := by rfl) (hk : keepOk md i σ H := by exact trivial) (hm : md.okE i = true := by rfl) : At P I N ops md Q H i c ⟨d, .panic x, tt, ps, af, gd⟩ env σ := at_throw hx hc hk hm k
/-! ### What a function returns -/
theorem post_of {fn : Func} {R : Out → List Rs → Prop} {xs : List AV} {τ dr : List Rs} (h : R (.ret (oneOf xs)) τ) (hr : ResVs P env σ fn.results.toList xs) (hp : Picks τ σ dr) : Post P fn R .ret env σ := ⟨xs, τ, dr, hr, hp.perm, h⟩
theorem post_end {fn : Func} {R : Out → List Rs → Prop} {xs : List AV} {τ dr : List Rs} (h : R (.ret (oneOf xs)) τ) (hr : ResVs P env σ fn.results.toList xs) (hp : Picks τ σ dr) : Post P fn R .normal env σ := ⟨xs, τ, dr, hr, hp.perm, h⟩
theorem post_pan {fn : Func} {R : Out → List Rs → Prop} {ch : List PanicEntry} {τ dr : List Rs} (h : R (.pan ch) τ) (hp : Picks τ σ dr) : Post P fn R (.panic ch) env σ := ⟨τ, dr, hp.perm, h⟩
end
end Go.Dp
/- Deep values: what says less. Conditions: none. -/
namespace Go.Dp
open Go.RowKit
set_option linter.unusedVariables false
mutual
/-- The second says no more than the first. -/
inductive Sub : AV → AV → Prop
  | refl (v : AV) : Sub v v
  | nil (es : Nat) : Sub (.sc (.slice none 0 0)) (.sl es [])
  | os (k es : Nat) (rs rs' : List AV) (h : Subs rs rs') : Sub (.os k es rs) (.sl es rs')
  | sl (es : Nat) (rs rs' : List AV) (h : Subs rs rs') : Sub (.sl es rs) (.sl es rs')
  | ag (cs cs' : List AV) (h : Subs cs cs') : Sub (.ag cs) (.ag cs')
  | tu (cs cs' : List AV) (h : Subs cs cs') : Sub (.tu cs) (.tu cs')
  | fn (f : Fn) (fs fs' cs cs' : List AV) (h : Subs fs fs') (h2 : Subs cs cs') : Sub (.fn f fs cs) (.fn f fs' cs')
inductive Subs : List AV → List AV → Prop
  | nil : Subs [] []
  | cons (x y : AV) (xs ys : List AV) (h : Sub x y) (hs : Subs xs ys) : Subs (x :: xs) (y :: ys)
end
theorem Subs.refl : ∀ (xs : List AV), Subs xs xs
  | [] => .nil
  | x :: xs => .cons _ _ _ _ (.refl x) (Subs.refl xs)
theorem Subs.length : ∀ {xs ys : List AV}, Subs xs ys → xs.length = ys.length
  | _, _, .nil => rfl
  | _, _, .cons _ _ _ _ _ hs => by simp [hs.length]
theorem Subs.get : ∀ {xs ys : List AV}, Subs xs ys → ∀ {i : Nat} {y : AV}, ys[i]? = some y → ∃ x, xs[i]? = some x ∧ Sub x y
  | _, _, .nil, i, y, h => by simp at h
  | _, _, .cons x z xs ys h hs, 0, y, hy => by simp at hy; subst hy; exact ⟨x, rfl, h⟩
  | _, _, .cons x z xs ys h hs, i + 1, y, hy => by
    obtain ⟨x', h1, h2⟩ := hs.get (i := i) (by simpa using hy)
    exact ⟨x', by simpa using h1, h2⟩
theorem Subs.append : ∀ {xs ys us vs : List AV}, Subs xs ys → Subs us vs → Subs (xs ++ us) (ys ++ vs)
  | _, _, _, _, .nil, k => k
  | _, _, _, _, .cons _ _ _ _ h hs, k => .cons _ _ _ _ h (hs.append k)
theorem Sub.one {x y : AV} (h : Sub x y) (hx : x.one = true) : y.one = true := by
  cases h <;> first | exact hx | rfl | cases hx
theorem Subs.ones {xs ys : List AV} (h : Subs xs ys) (hx : ∀ x, x ∈ xs → x.one = true) : ∀ y, y ∈ ys → y.one = true := by
  intro y hy
  obtain ⟨n, hn, rfl⟩ := List.getElem_of_mem hy
  obtain ⟨x, h1, h2⟩ := h.get (List.getElem?_eq_getElem hn)
  exact h2.one (hx x (List.mem_of_getElem? h1))
theorem Sub.cells {x y : AV} (h : Sub x y) : Subs x.cells y.cells := by
  cases h with
  | refl => exact Subs.refl _
  | nil es => exact .cons _ _ _ _ (.nil es) .nil
  | os k es rs rs' h => exact .cons _ _ _ _ (.os k es rs rs' h) .nil
  | sl es rs rs' h => exact .cons _ _ _ _ (.sl es rs rs' h) .nil
  | ag cs cs' h => exact h
  | tu cs cs' h => exact .cons _ _ _ _ (.tu cs cs' h) .nil
  | fn f fs fs' cs cs' h h2 => exact .cons _ _ _ _ (.fn f fs fs' cs cs' h h2) .nil
theorem VR.weak {g : Gh} {w : World} {v : Value} {x : AV} (h : VR g w v x) : ∀ {y : AV}, Sub x y → VR g w v y := by
  induction h with
  | un v => intro y hs; cases hs; exact .un v
  | sc v =>
    intro y hs
    cases hs with
    | refl => exact .sc v
    | nil es => exact .nl es none 0 (Nat.zero_le _)
  | nl es a c hc =>
    intro y hs
    cases hs with
    | refl => exact .nl es a c hc
    | sl es rs rs' h => cases h; exact .nl es a c hc
  | sl b o len cap es rs vs hl hc hm h1 h2 h3 ih =>
    intro y hs
    cases hs with
    | refl => exact .sl b o len cap es rs vs hl hc hm h1 h2 h3
    | sl _ _ rs' h =>
      refine .sl b o len cap es rs' vs (by rw [← h.length]; exact hl) hc hm h1 (fun i j x y hx hy => ?_) (fun x hx => ?_)
      · obtain ⟨x', e1, e2⟩ := h.get hx
        obtain ⟨y', e3, e4⟩ := e2.cells.get hy
        exact ih i j x' y' e1 e3 e4
      · obtain ⟨n, hn, rfl⟩ := List.getElem_of_mem hx
        obtain ⟨x', e1, e2⟩ := h.get (List.getElem?_eq_getElem hn)
        obtain ⟨f1, f2⟩ := h3 x' (List.mem_of_getElem? e1)
        exact ⟨by rw [← e2.cells.length]; exact f1, e2.cells.ones f2⟩
  | os v k es rs h h1 h2 h3 ih =>
    intro y hs
    cases hs with
    | refl => exact .os v k es rs h h1 h2 h3
    | os _ _ _ rs' h' => exact ih (.sl es rs rs' h')
  | ep b o cs vs h1 h2 h3 ih => intro y hs; cases hs; exact .ep b o cs vs h1 h2 h3
  | fn f first captured fs cs hf hc h1 h2 ih1 ih2 =>
    intro y hs
    cases hs with
    | refl => exact .fn f first captured fs cs hf hc h1 h2
    | fn _ _ fs' _ cs' k1 k2 =>
      refine .fn f first captured fs' cs' (by rw [← k1.length]; exact hf) (by rw [← k2.length]; exact hc) (fun i x y hx hy => ?_) (fun i x y hx hy => ?_)
      · obtain ⟨y', e1, e2⟩ := k1.get hy
        exact ih1 i x y' hx e1 e2
      · obtain ⟨y', e1, e2⟩ := k2.get hy
        exact ih2 i x y' hx e1 e2
  | ag xs cs hl h h3 ih =>
    intro y hs
    cases hs with
    | refl => exact .ag xs cs hl h h3
    | ag _ cs' k =>
      refine .ag xs cs' (by rw [← k.length]; exact hl) (fun i x y hx hy => ?_) (k.ones h3)
      obtain ⟨y', e1, e2⟩ := k.get hy
      exact ih i x y' hx e1 e2
  | tu xs cs hl h ih =>
    intro y hs
    cases hs with
    | refl => exact .tu xs cs hl h
    | tu _ cs' k =>
      refine .tu xs cs' (by rw [← k.length]; exact hl) (fun i x y hx hy => ?_)
      obtain ⟨y', e1, e2⟩ := k.get hy
      exact ih i x y' hx e1 e2
  | ic t v x h ih => intro y hs; cases hs; exact .ic t v x h
theorem VRs.subs {g : Gh} {w : World} {vs : List Value} {xs ys : List AV} (h : VRs g w vs xs) (hs : Subs xs ys) : VRs g w vs ys :=
  ⟨h.1.trans hs.length, fun i v y hv hy => let ⟨x, e1, e2⟩ := hs.get hy; (h.2 i v x hv e1).weak e2⟩
/-- What is returned may say less. -/
inductive OutSub : Out → Out → Prop
  | ret (x y : AV) (h : Sub x y) : OutSub (.ret x) (.ret y)
  | pan (c : List PanicEntry) : OutSub (.pan c) (.pan c)
theorem Out.is.sub {g : Gh} {w : World} {e : Ending} {o o' : Out} (h : o.is g w e) (hs : OutSub o o') : o'.is g w e := by
  cases hs with
  | ret x y k => cases e <;> first | exact VR.weak h k | exact h
  | pan c => exact h
section
variable {P : Program} {I : World → Prop} {N : Nat} {Q : Exit → Env → List Rs → Prop} {env : Env} {σ : List Rs}
/-- Arguments may say more, results less. -/
theorem Sim.weak {f : FuncId} {args args' : List AV} {τ : List Rs} {R R' : Out → List Rs → Prop} (h : Sim P I f args' τ R) (ha : Subs args args') (hr : ∀ o σ', R o σ' → ∃ o', OutSub o o' ∧ R' o' σ') : Sim P I f args τ R' :=
  ⟨h.1, fun w0 g w fr vs hI hR hv => (h.2 w0 g w fr vs hI hR (hv.subs ha)).mono fun e w' ⟨g', σ', o, h1, h2, h3, h4⟩ => let ⟨o', h5, h6⟩ := hr o σ' h4; ⟨g', σ', o', h1, h2, h3.sub h5, h6⟩⟩
theorem EnvR.slot {g : Gh} {w : World} {a : Act} (hE : EnvR g w N a env) {t : Nat} {x : AV} (h : Sub (env.get t) x) : EnvR g w N a ((t, x) :: env) := by
  refine ⟨hE.size, hE.defers, fun u => ?_⟩
  show VR g w _ (bif Nat.beq t u then x else env.get u)
  cases hb : Nat.beq t u with
  | false => exact hE.val u
  | true => rw [← Nat.eq_of_beq_eq_true hb]; exact (hE.val t).weak h
/-- A nil slice in a variable, as one that may be appended to. -/
theorem Rel.boxtok {w0 w : World} {g : Gh} {b : Nat} {cs cs' : List AV} {t : TypeId} {ρ : List Rs} {o : Nat} (h : Rel w0 g (.box b cs t :: ρ) w) (hc : cs[o]? = some (.sc (.slice none 0 0))) (e : TypeId) (es : Nat) :
    ∃ g' k, Ext g w g' w ∧ Rel w0 g' (.box b (cs.set o (.os k es [])) t :: .tok k e es 0 :: ρ) w := by
  obtain ⟨g', r1, r2, r3⟩ := h.nilrow e es
  refine ⟨g', g.nt, r1, ?_⟩
  have r4 : Rel w0 g' (.box b cs t :: .tok g.nt e es 0 :: ρ) w := r2.perm (List.Perm.swap _ _ _)
  refine ⟨fun r hr => ?_, ?_, r4.cells, r4.fresh, r4.below⟩
  · rcases List.mem_cons.1 hr with rfl | hr
    · obtain ⟨h1, ⟨vs, fz, h2, hz, h3, h4⟩, h5⟩ := r4.ok _ (List.mem_cons_self ..)
      refine ⟨h1, ⟨vs, fz, h2, hz, ⟨by rw [List.length_set]; exact h3.1, fun i v x hv hx => ?_⟩, fun x hx => ?_⟩, h5⟩
      · rw [List.getElem?_set] at hx
        split at hx
        · rename_i ho
          subst ho
          have := h3.2 o v _ hv hc
          split at hx
          · cases hx; rw [this.bool]; exact r3
          · cases hx
        · exact h3.2 i v x hv hx
      · rcases List.mem_or_eq_of_mem_set hx with hx | rfl
        · exact h4 x hx
        · exact .inl rfl
    · exact r4.ok r (List.mem_cons_of_mem _ hr)
  · have := r4.apart
    rw [List.pairwise_cons] at this ⊢
    exact ⟨fun s hs' => ⟨fun b' hb hc => (this.1 s hs').1 b' hb hc, fun k hk => by cases hk⟩, this.2⟩
theorem aw_boxtok {c : Code} {b : Nat} {cs : List AV} {t : TypeId} {ρ : List Rs} (o : Nat) (e : TypeId) (es : Nat) (hp : Pick (.box b cs t) σ ρ) (hc : cs[o]? = some (.sc (.slice none 0 0))) (k : ∀ k, AW P I N c Q env (.box b (cs.set o (.os k es [])) t :: .tok k e es 0 :: ρ)) : AW P I N c Q env σ :=
  ⟨fun w0 gz wz g a w fr hI hx hR hE => by
    obtain ⟨g', j, r1, r2⟩ := Rel.boxtok (cs' := []) (hR.perm (hp.perm.append_right fr)) hc e es
    exact (k j).run w0 gz wz g' a w fr hI (hx.trans r1) r2 (hE.mono r1)⟩
end
section
variable {P : Program} [Tys P] {I : World → Prop}
/-- A function is walked, and its result said in other words. -/
theorem sim_body' {f : FuncId} {fn : Func} {c : Code} {args : List AV} {τ : List Rs} {R : Out → List Rs → Prop} (hf : P.funcs[f]? = some fn) (hname : (fn.name == "runtime.NumGoroutine") = false) (hb : fn.body = some c) (hn : Nat.ble args.length fn.ntmps = true)
    (h : AW P I fn.ntmps c (Post P fn fun o σ => ∃ o', OutSub o o' ∧ R o' σ) (argEnv 0 args) τ) : Sim P I f args τ R :=
  (sim_body hf hname hb hn h).weak (Subs.refl _) fun o σ' h => h
end
end Go.Dp
/- Deep values: stores and calls, as steps. Conditions: none. -/
namespace Go.Dp
open Go.RowKit
set_option linter.unusedVariables false
theorem EnvLe.of_eq {env env' E : Env} (h : ∀ t, env'.get t = env.get t) (k : EnvLe env E) : EnvLe env' E := fun t => by rw [h t]; exact k t
theorem then_ret {K : Env → List Rs → Prop} {Q : Exit → Env → List Rs → Prop} {env : Env} {σ : List Rs} (h : Q .ret env σ) : Then K Q .ret env σ := h
theorem then_pan {K : Env → List Rs → Prop} {Q : Exit → Env → List Rs → Prop} {env : Env} {σ : List Rs} {c : List PanicEntry} (h : Q (.panic c) env σ) : Then K Q (.panic c) env σ := h
theorem then_nor {K : Env → List Rs → Prop} {Q : Exit → Env → List Rs → Prop} {env : Env} {σ : List Rs} (h : K env σ) : Then K Q .normal env σ := h
theorem inb_ret {id : Nat} {Q : Exit → Env → List Rs → Prop} {env : Env} {σ : List Rs} (h : Q .ret env σ) : InBlock id Q .ret env σ := h
theorem inb_pan {id : Nat} {Q : Exit → Env → List Rs → Prop} {env : Env} {σ : List Rs} {c : List PanicEntry} (h : Q (.panic c) env σ) : InBlock id Q (.panic c) env σ := h
theorem then_exit {K : Env → List Rs → Prop} {Q : Exit → Env → List Rs → Prop} {env : Env} {σ : List Rs} {id : Nat} (h : Q (.exit id) env σ) : Then K Q (.exit id) env σ := h
theorem inb_exit {id : Nat} {Q : Exit → Env → List Rs → Prop} {env : Env} {σ : List Rs} (h : Q .normal env σ) : InBlock id Q (.exit id) env σ := by
  show (if id = id then Q .normal env σ else Q (.exit id) env σ)
  rw [if_pos rfl]; exact h
theorem inb_out {id id' : Nat} {Q : Exit → Env → List Rs → Prop} {env : Env} {σ : List Rs} (hne : id' ≠ id) (h : Q (.exit id') env σ) : InBlock id Q (.exit id') env σ := by
  show (if id' = id then Q .normal env σ else Q (.exit id') env σ)
  rw [if_neg hne]; exact h
theorem inb_nor {id : Nat} {Q : Exit → Env → List Rs → Prop} {env : Env} {σ : List Rs} (h : Q .normal env σ) : InBlock id Q .normal env σ := h
section
variable {P : Program} {I : World → Prop} {N : Nat} {Q : Exit → Env → List Rs → Prop} {env : Env} {σ : List Rs}
theorem s_skip {y : Code} {Q0 : Exit → Env → List Rs → Prop} (k : AW P I N y Q0 env σ) (hq : ∀ env' σ', Q .normal env' σ' = AW P I N y Q0 env' σ' := by exact fun _ _ => rfl) : AW P I N .skip Q env σ := aw_skip (by rw [hq]; exact k)
end
section
variable {P : Program} [Tys P] {I : World → Prop} {N : Nat} {ops : Array Oper} {md : Md} {H : List (Nat × Option Rs)} {env : Env} {σ : List Rs}
/-- The end of a function without results. -/
theorem d_void {fn : Func} {R : Out → List Rs → Prop} {τ dr : List Rs} (h : R (.ret (.tu [])) τ) (hp : Picks τ σ dr) (hres : fn.results.toList = [] := by rfl) : Der P I N ops md (Post P fn R) H [] env σ :=
  d_end fun env' _ => post_end (xs := []) h (by rw [hres]; exact .nil) hp
theorem s_void {fn : Func} {R : Out → List Rs → Prop} {τ dr : List Rs} (h : R (.ret (.tu [])) τ) (hp : Picks τ σ dr) (hres : fn.results.toList = [] := by rfl) : AW P I N .skip (Post P fn R) env σ :=
  aw_skip (post_end (xs := []) h (by rw [hres]; exact .nil) hp)
end
section
variable {P : Program} [Tys P] {I : World → Prop} {N : Nat} {ops : Array Oper} {md : Md} {Q : Exit → Env → List Rs → Prop} {H : List (Nat × Option Rs)} {i : Nat} {c : List Nat} {env : Env} {σ σ1 : List Rs} {d : Option Tmp} {op : Op} {tt : TypeId} {ps : String} {af : Array Edge} {gd : Option (Nat × Bool)}
/-- A store: the state behind it. -/
inductive StB (P : Program) [Tys P] (md : Md) (i : Nat) (H : List (Nat × Option Rs)) (σ : List Rs) (env : Env) (b o : Nat) (t : TypeId) (y : Operand) : List Rs → Prop
  | one (cs cs' : List AV) (te : TypeId) (T : Ty) (v : AV) (l : List Rs) (hp : Pick (.box b cs te) σ l) (ht : ty P t = some T) (hl : T.size = 1) (hv : env.val y = v) (h1 : v.single = true) (h2 : v.one = true) (hc : SetC v cs o cs') (hk : keepOk md i l H) : StB P md i H σ env b o t y (.box b cs' te :: l)
  | all (cs cs' : List AV) (te : TypeId) (T : Ty) (l : List Rs) (hp : Pick (.box b cs te) σ l) (ht : ty P t = some T) (ho : o = 0) (hv : env.val y = .ag cs') (h1 : ones cs' = true) (hl : cs'.length = T.size) (hc : cs.length = T.size) (hk : keepOk md i l H) : StB P md i H σ env b o t y (.box b cs' te :: l)
theorem s_store' {t : TypeId} {x y : Operand} {b o : Nat} {σ' : List Rs} (k : Der P I N ops md Q H c (env.put d .un) σ') (hx : env.val x = .sc (.pointer (some ⟨b, o, none⟩)) := by rfl)
    (hs : StB P md i H σ env b o t y σ' := by first
      | (apply Go.Dp.StB.one; (repeat (first | exact Go.Dp.Pick.here _ | apply Go.Dp.Pick.there)); rfl; rfl; (first | exact (rfl : _ = Go.Dp.AV.sc _) | exact (rfl : _ = Go.Dp.AV.os _ _ _) | exact (rfl : _ = Go.Dp.AV.sl _ _) | exact (rfl : _ = Go.Dp.AV.fn _ _ _)); (first | rfl | assumption); (first | rfl | assumption); (repeat (first | exact Go.Dp.SetC.here _ _ | apply Go.Dp.SetC.there)); (repeat' (first | exact trivial | (refine And.intro (fun h => ?_) ?_) | exact absurd h (by decide +kernel) | exact Go.Dp.Pick.mem (by ((repeat (first | exact Go.Dp.Pick.here _ | apply Go.Dp.Pick.there)); (first | done | fail))))))
      | (apply Go.Dp.StB.all; (repeat (first | exact Go.Dp.Pick.here _ | apply Go.Dp.Pick.there)); rfl; rfl; rfl; (first | rfl | simp only [Go.Dp.ones, List.all_cons, List.all_nil, Bool.and_true, Go.Dp.one_int, Go.Dp.one_bool, Go.Dp.one_str, Go.Dp.one_ptr, Go.Dp.one_slice, Go.Dp.one_sl, Go.Dp.one_os, *]); rfl; rfl; (repeat' (first | exact trivial | (refine And.intro (fun h => ?_) ?_) | exact absurd h (by decide +kernel) | exact Go.Dp.Pick.mem (by ((repeat (first | exact Go.Dp.Pick.here _ | apply Go.Dp.Pick.there)); (first | done | fail)))))))
    (hm : md.okE i = true := by rfl) : At P I N ops md Q H i c ⟨d, .store t x y, tt, ps, af, gd⟩ env σ := by
  cases hs with
  | one cs cs' te T v l hp ht hl hv h1 h2 hc hk => exact s_store k hx hp ht hv h1 h2 hl hc hk hm
  | all cs cs' te T l hp ht ho hv h1 hl hc hk => subst ho; exact s_stores k hx hp ht hv h1 hl hc hk hm
omit [Tys P] in
/-- A call: of its two outcomes one at least is to be told. -/
theorem s_call {f : FuncId} {as : Array Operand} {ts : Array TypeId} {args : List AV} {τ : List Rs} {R : Out → List Rs → Prop} (hs : Sim P I f args τ R)
    (k1 : ∀ x τ', R (.ret x) τ' → Der P I N ops md Q H c (env.put d x) (τ' ++ σ1)) (k2 : ∀ c τ', R (.pan c) τ' → ∀ env', Q (.panic c) env' (τ' ++ σ1)) (ha : as.toList.map env.val = args := by rfl)
    (hpk : Picks τ σ σ1 ∧ keepOk md i σ1 H := by (refine And.intro ?_ ?_; (focus ((repeat (first | exact Go.Dp.Picks.nil _ | (apply Go.Dp.Picks.cons; focus ((repeat (first | exact Go.Dp.Pick.here _ | apply Go.Dp.Pick.there)); (first | done | fail))))); (first | done | fail))); (repeat' (first | exact trivial | (refine And.intro (fun h => ?_) ?_) | exact absurd h (by decide +kernel) | exact Go.Dp.Pick.mem (by ((repeat (first | exact Go.Dp.Pick.here _ | apply Go.Dp.Pick.there)); (first | done | fail))))); (first | done | fail))) (hm : md.okE i = true := by rfl) :
    At P I N ops md Q H i c ⟨d, .call ⟨.value (.func f), as, ts⟩, tt, ps, af, gd⟩ env σ := at_call hs ha hpk.1 hpk.2 hm k1 k2
omit [Tys P] in
theorem s_callv {f : FuncId} {x : Operand} {as : Array Operand} {ts : Array TypeId} {args fs cs : List AV} {τ : List Rs} {R : Out → List Rs → Prop} (hs : Sim P I f args τ R)
    (k1 : ∀ x τ', R (.ret x) τ' → Der P I N ops md Q H c (env.put d x) (τ' ++ σ1)) (k2 : ∀ c τ', R (.pan c) τ' → ∀ env', Q (.panic c) env' (τ' ++ σ1)) (hx : env.val x = .fn (.func f) fs cs := by rfl) (ha : fs ++ as.toList.map env.val ++ cs = args := by first | rfl | simp)
    (hpk : Picks τ σ σ1 ∧ keepOk md i σ1 H := by (refine And.intro ?_ ?_; (focus ((repeat (first | exact Go.Dp.Picks.nil _ | (apply Go.Dp.Picks.cons; focus ((repeat (first | exact Go.Dp.Pick.here _ | apply Go.Dp.Pick.there)); (first | done | fail))))); (first | done | fail))); (repeat' (first | exact trivial | (refine And.intro (fun h => ?_) ?_) | exact absurd h (by decide +kernel) | exact Go.Dp.Pick.mem (by ((repeat (first | exact Go.Dp.Pick.here _ | apply Go.Dp.Pick.there)); (first | done | fail))))); (first | done | fail))) (hm : md.okE i = true := by rfl) :
    At P I N ops md Q H i c ⟨d, .call ⟨.value x, as, ts⟩, tt, ps, af, gd⟩ env σ := at_callv hx hs ha hpk.1 hpk.2 hm k1 k2
omit [Tys P] in
/-- A call that changes nothing. -/
theorem s_callr {f : FuncId} {as : Array Operand} {ts : Array TypeId} {args : List AV} {r : Rs} {v : AV} {l : List Rs} (hs : Sim P I f args [r] (fun o τ' => o = .ret v ∧ τ' = [r])) (k : Der P I N ops seqMd Q [] c (env.put d v) σ) (ha : as.toList.map env.val = args := by rfl) (hp : Pick r σ l := by ((repeat (first | exact Go.Dp.Pick.here _ | apply Go.Dp.Pick.there)); (first | done | fail))) :
    At P I N ops seqMd Q [] i c ⟨d, .call ⟨.value (.func f), as, ts⟩, tt, ps, af, gd⟩ env σ := at_rds (r := r) (rd_call (r := some r) hs ha) hp k
omit [Tys P] in
theorem s_callrd {f : FuncId} {as : Array Operand} {ts : Array TypeId} {args : List AV} {r : Rs} {v : AV} {l : List Rs} (hs : Sim P I f args [r] (fun o τ' => o = .ret v ∧ τ' = [r])) (k : Der P I N ops md Q ((i, some r) :: H) c (env.put d v) σ) (ha : as.toList.map env.val = args := by rfl) (hp : Pick r σ l := by ((repeat (first | exact Go.Dp.Pick.here _ | apply Go.Dp.Pick.there)); (first | done | fail))) (hm : md.okR i = true := by rfl) :
    At P I N ops md Q H i c ⟨d, .call ⟨.value (.func f), as, ts⟩, tt, ps, af, gd⟩ env σ := at_rdb (r := r) (rd_call (r := some r) hs ha) hp hm k
omit [Tys P] in
theorem s_call0 {f : FuncId} {as : Array Operand} {ts : Array TypeId} {args : List AV} {v : AV} (hs : Sim P I f args [] (fun o τ' => o = .ret v ∧ τ' = [])) (k : Der P I N ops md Q H c (env.put d v) σ) (ha : as.toList.map env.val = args := by rfl) (hm : md.okR i = true := by rfl) :
    At P I N ops md Q H i c ⟨d, .call ⟨.value (.func f), as, ts⟩, tt, ps, af, gd⟩ env σ := at_rd (rd_call (r := none) hs ha) hm k
/-- A slice literal. -/
theorem s_lit {t e : TypeId} {len es : Nat} {parts : Array (Nat × Operand)} {T E : Ty} {vs : List AV} (k : ∀ b, Der P I N ops md Q H c (env.put d (.os b es vs)) (.tok b e es vs.length :: σ)) (ht : ty P t = some T := by rfl) (hs : T.sh = .sl e := by rfl) (he : ty P e = some E := by rfl) (hes : E.size = es := by first | exact (rfl : _ = 6) | exact (rfl : _ = 1) | exact (rfl : _ = 2) | exact (rfl : _ = 5) | rfl)
    (hv : Elts env es 0 parts.toList vs := by repeat' (first | exact Go.Dp.Elts.nil _ | (apply Go.Dp.Elts.cons; (first | exact (rfl : _ = Go.Dp.AV.ag _) | exact (rfl : _ = Go.Dp.AV.sc _) | rfl); rfl; rfl))) (hlen : vs.length = len := by rfl)
    (hpos : Nat.blt 0 (len * es) = true := by rfl) (hle : Nat.ble (len * es) 16777216 = true := by rfl) (hag : (bif E.sh.agg then aggs es vs else (Nat.beq es 1 && vs.all AV.single)) = true := by rfl) (hk : keepOk md i σ H := by exact trivial) (hm : md.okE i = true := by rfl) : At P I N ops md Q H i c ⟨d, .buildSlice t len parts, tt, ps, af, gd⟩ env σ :=
  s_slice k ht hs he hes hv hlen hpos hle hag hk hm
/-- An append; the new elements may say less. -/
theorem s_append {t e : TypeId} {s x : Operand} {T E : Ty} {k es : Nat} {rs ys : List AV} {xv : AV} (kk : Der P I N ops md Q H c (env.put d (.os k es (rs ++ ys))) (.tok k e es (rs ++ ys).length :: σ1))
    (hs : env.val s = .os k es rs := by rfl) (hx : env.val x = xv := by first | exact (rfl : _ = Go.Dp.AV.os _ _ _) | exact (rfl : _ = Go.Dp.AV.sl _ _) | exact (rfl : _ = Go.Dp.AV.sc _)) (hxs : xv.isSl es ys := by first | exact Go.Dp.isSl_os _ _ _ | exact Go.Dp.isSl_sl _ _ | exact Go.Dp.isSl_nil _) (ht : ty P t = some T := by rfl) (hsl : T.sh = .sl e := by rfl) (he : ty P e = some E := by rfl) (hes : E.size = es := by rfl) (hzs : E.zero.cells.size = E.size := by rfl) (hpos : Nat.blt 0 es = true := by rfl)
    (hp : Pick (.tok k e es rs.length) σ σ1 := by ((repeat (first | exact Go.Dp.Pick.here _ | apply Go.Dp.Pick.there)); (first | done | fail))) (hb : Nat.ble E.bytes 100 = true := by rfl) (h63 : (rs.length + ys.length) * 100 ≤ 140737488355328 := by first | omega | (simp only [List.length_cons, List.length_nil, List.length_append]; omega)) (hk : keepOk md i σ1 H := by exact trivial) (hm : md.okE i = true := by rfl) : At P I N ops md Q H i c ⟨d, .call ⟨.builtin .append, #[s, x], #[t, t]⟩, tt, ps, af, gd⟩ env σ := by
  have hb' := Nat.le_of_ble_eq_true hb
  refine at_append hs hx hxs ht hsl he hes hzs hpos hp (by unfold maxLen; omega) (Nat.le_trans (Nat.mul_le_mul_left _ hb') h63) hk hm kk
end
end Go.Dp
namespace Go.Dp
open Go.RowKit
set_option linter.unusedVariables false
section
variable {P : Program} {I : World → Prop} {N : Nat} {Q : Exit → Env → List Rs → Prop} {env : Env} {σ : List Rs}
/-- A nil slice in a temporary, as one that may be appended to. -/
theorem aw_slottok {c : Code} (t : Nat) (e : TypeId) (es : Nat) (k : ∀ k, AW P I N c Q ((t, .os k es []) :: env) (.tok k e es 0 :: σ)) (hv : env.get t = .sc (.slice none 0 0) := by rfl) : AW P I N c Q env σ :=
  ⟨fun w0 gz wz g a w fr hI hx hR hE => by
    obtain ⟨g', r1, r2, r3⟩ := hR.nilrow e es
    have hE' := hE.mono r1
    refine (k g.nt).run w0 gz wz g' a w fr hI (hx.trans r1) r2 ⟨hE'.size, hE'.defers, fun u => ?_⟩
    show VR g' w _ (bif Nat.beq t u then .os g.nt es [] else env.get u)
    cases hb : Nat.beq t u with
    | false => exact hE'.val u
    | true =>
      rw [← Nat.eq_of_beq_eq_true hb]
      have := hE'.val t
      rw [hv] at this
      rw [this.bool]
      exact r3⟩
/-- A loop: its end of a round. -/
theorem rnd_end {S : Type} {E : S → Env} {Τ : S → List Rs} {inv : S → Prop} {μ : S → Nat} {s : S} {env' : Env} {σ' dr : List Rs} (s' : S) (hp : Picks (Τ s') σ' dr) (hi : inv s') (hm : μ s' < μ s) (he : EnvLe env' (E s')) : ∃ s' dr, inv s' ∧ μ s' < μ s ∧ EnvLe env' (E s') ∧ σ'.Perm (Τ s' ++ dr) := ⟨s', dr, hi, hm, he, hp.perm⟩
end
section
variable {P : Program} [Tys P] {I : World → Prop} {N : Nat} {ops : Array Oper} {md : Md} {Q : Exit → Env → List Rs → Prop} {H : List (Nat × Option Rs)} {i : Nat} {c : List Nat} {env : Env} {σ : List Rs} {d : Option Tmp} {tt : TypeId} {ps : String} {af : Array Edge} {gd : Option (Nat × Bool)}
theorem ef_slice {t e : TypeId} {len es : Nat} {parts : Array (Nat × Operand)} {T E : Ty} {vs : List AV} (ht : ty P t = some T) (hs : T.sh = .sl e) (he : ty P e = some E) (hes : E.size = es) (hv : Elts env es 0 parts.toList vs) (hlen : vs.length = len)
    (hpos : Nat.blt 0 (len * es) = true) (hle : Nat.ble (len * es) 16777216 = true) (hag : (bif E.sh.agg then aggs es vs else (Nat.beq es 1 && vs.all AV.single)) = true) :
    EfS P I ⟨d, .buildSlice t len parts, tt, ps, af, gd⟩ env [] (fun x τ' => ∃ b, x = .os b es vs ∧ τ' = [.tok b e es vs.length]) (fun _ _ => False) := by
  obtain ⟨f1, f2, f3⟩ := hv.fill [] ((List.range (len * es)).map fun j => .sc (E.zero.cells[j % E.zero.cells.size]!)) (by simp) (by simp [hlen])
  rw [List.nil_append, List.nil_append] at f1
  have hones : ones (vs.flatMap AV.cells) = true := List.all_eq_true.2 fun y hy => by
    obtain ⟨v, h1, h2⟩ := List.mem_flatMap.1 hy
    exact (f3 v h1).2 y h2
  have hl : (vs.flatMap AV.cells).length = len * es := by
    rw [← hlen]
    exact flat_len es vs fun v hv => (f3 v hv).1
  refine ef_buildSlice ht hs he hes rfl hpos hle f1 ?_ hones hl ?_ ?_
  · rw [List.all_eq_true]
    exact fun p hp => List.all_eq_true.2 (f2 p hp)
  · rw [← hlen]
    cases ha : E.sh.agg with
    | true =>
      rw [ha, cond_true] at hag
      refine (chop_agg es vs fun v hv => ?_).symm
      have := List.all_eq_true.1 hag v hv
      cases v <;> first | exact ⟨_, rfl, Nat.eq_of_beq_eq_true this⟩ | cases this
    | false =>
      rw [ha, cond_false, Bool.and_eq_true] at hag
      have h1 := Nat.eq_of_beq_eq_true hag.1
      subst h1
      exact (chop_one vs fun v hv => AV.single_cells (List.all_eq_true.1 hag.2 v hv)).symm
  · cases ha : E.sh.agg with
    | true => rfl
    | false =>
      rw [ha, cond_false, Bool.and_eq_true] at hag
      rw [Bool.false_or, Bool.and_eq_true]
      refine ⟨hag.1, List.all_eq_true.2 fun y hy => ?_⟩
      obtain ⟨v, h1, h2⟩ := List.mem_flatMap.1 hy
      have h3 := List.all_eq_true.1 hag.2 v h1
      rw [AV.single_cells h3, List.mem_singleton] at h2
      rw [h2]; exact h3
theorem rd_slice {t e : TypeId} {len es : Nat} {parts : Array (Nat × Operand)} {T E : Ty} {vs : List AV} (ht : ty P t = some T) (hs : T.sh = .sl e) (he : ty P e = some E) (hes : E.size = es) (hv : Elts env es 0 parts.toList vs) (hlen : vs.length = len)
    (hpos : Nat.blt 0 (len * es) = true) (hle : Nat.ble (len * es) 16777216 = true) (hag : (bif E.sh.agg then aggs es vs else (Nat.beq es 1 && vs.all AV.single)) = true) :
    RdS P I ⟨d, .buildSlice t len parts, tt, ps, af, gd⟩ env none (.sl es vs) :=
  ⟨fun w0 g a w fr hI hR _ hop => upon_mono (fun a' w' ⟨g', τ', x, u, e1, e2, e3, e4, b, e5, e6⟩ => ⟨g', u, e1, e2, by subst e6; exact Rel.drop (σ := [_]) (τ := []) (dr := [_]) e3 (List.Perm.refl _), by subst e5; exact e4.weak (.os _ _ _ _ (Subs.refl _))⟩) (fun c a w ⟨c', g', τ', e1, e2, e3, e4, e5⟩ => e5.elim) (fun a w ⟨c', g', τ', e1, e2, e3, e4, e5⟩ => e5.elim) ((ef_slice (d := d) (tt := tt) (ps := ps) (af := af) (gd := gd) (I := I) ht hs he hes hv hlen hpos hle hag).run w0 g a w fr hI hR hop)⟩
/-- A slice literal that nothing is appended to. -/
theorem s_litq {t e : TypeId} {len es : Nat} {parts : Array (Nat × Operand)} {T E : Ty} {vs : List AV} (k : Der P I N ops md Q H c (env.put d (.sl es vs)) σ) (ht : ty P t = some T := by rfl) (hs : T.sh = .sl e := by rfl) (he : ty P e = some E := by rfl) (hes : E.size = es := by first | exact (rfl : _ = 6) | exact (rfl : _ = 1) | exact (rfl : _ = 2) | exact (rfl : _ = 5) | rfl)
    (hv : Elts env es 0 parts.toList vs := by repeat' (first | exact Go.Dp.Elts.nil _ | (apply Go.Dp.Elts.cons; (first | exact (rfl : _ = Go.Dp.AV.ag _) | exact (rfl : _ = Go.Dp.AV.sc _) | rfl); rfl; rfl))) (hlen : vs.length = len := by rfl)
    (hpos : Nat.blt 0 (len * es) = true := by rfl) (hle : Nat.ble (len * es) 16777216 = true := by rfl) (hag : (bif E.sh.agg then aggs es vs else (Nat.beq es 1 && vs.all AV.single)) = true := by rfl) (hm : md.okR i = true := by rfl) : At P I N ops md Q H i c ⟨d, .buildSlice t len parts, tt, ps, af, gd⟩ env σ :=
  at_rd (rd_slice ht hs he hes hv hlen hpos hle hag) hm k
end
section
variable {P : Program} [Tys P] {I : World → Prop} {N : Nat} {ops : Array Oper} {md : Md} {Q : Exit → Env → List Rs → Prop} {H : List (Nat × Option Rs)} {i : Nat} {c : List Nat} {env : Env} {σ σ1 : List Rs} {d : Option Tmp} {tt : TypeId} {ps : String} {af : Array Edge} {gd : Option (Nat × Bool)}
/-- An append in a region that draws. -/
theorem s_appendd {t e : TypeId} {s x : Operand} {T E : Ty} {k es : Nat} {rs ys : List AV} {xv : AV} (kk : Der P I N ops md Q H c (env.put d (.os k es (rs ++ ys))) (.tok k e es (rs ++ ys).length :: σ1))
    (hs : env.val s = .os k es rs := by rfl) (hx : env.val x = xv := by first | exact (rfl : _ = Go.Dp.AV.os _ _ _) | exact (rfl : _ = Go.Dp.AV.sl _ _) | exact (rfl : _ = Go.Dp.AV.sc _)) (hxs : xv.isSl es ys := by first | exact Go.Dp.isSl_os _ _ _ | exact Go.Dp.isSl_sl _ _ | exact Go.Dp.isSl_nil _) (ht : ty P t = some T := by rfl) (hsl : T.sh = .sl e := by rfl) (he : ty P e = some E := by rfl) (hes : E.size = es := by rfl) (hzs : E.zero.cells.size = E.size := by rfl) (hpos : Nat.blt 0 es = true := by rfl)
    (hp : Pick (.tok k e es rs.length) σ σ1 := by ((repeat (first | exact Go.Dp.Pick.here _ | apply Go.Dp.Pick.there)); (first | done | fail))) (hb : Nat.ble E.bytes 100 = true := by rfl) (h63 : (rs.length + ys.length) * 100 ≤ 140737488355328 := by first | omega | (simp only [List.length_cons, List.length_nil, List.length_append]; omega)) (hk : keepOk md i σ1 H := by ((repeat' (first | exact trivial | (refine And.intro (fun h => ?_) ?_) | exact absurd h (by decide +kernel) | exact Go.Dp.Pick.mem (by ((repeat (first | exact Go.Dp.Pick.here _ | apply Go.Dp.Pick.there)); (first | done | fail))))); (first | done | fail))) (hm : md.okE i = true := by rfl) : At P I N ops md Q H i c ⟨d, .call ⟨.builtin .append, #[s, x], #[t, t]⟩, tt, ps, af, gd⟩ env σ := by
  have hb' := Nat.le_of_ble_eq_true hb
  refine at_append hs hx hxs ht hsl he hes hzs hpos hp (by unfold maxLen; omega) (Nat.le_trans (Nat.mul_le_mul_left _ hb') h63) hk hm kk
end
end Go.Dp
/- Deep values: a call of which only old memory is known to stay (contracts of other proofs are taken over). Conditions: none. -/
namespace Go.Dp
open Go.RowKit
set_option linter.unusedVariables false
theorem Rel.old {w0 w w' : World} {g : Gh} {σ : List Rs} (h : Rel w0 g σ w) (hB : Below w.heap.size w w') (S : Nat → Nat → Prop) (hS : ∀ b o, S b o → w.heap.size ≤ b ∧ (w'.cell? ⟨b, o, none⟩).isSome = true) :
    ∃ g', Ext g w g' w' ∧ Rel w0 g' σ w' ∧ ∀ b o, S b o → g'.pr b o := by
  have hlow : w0.heap.size ≤ w.heap.size := h.below.size
  have hc : ∀ b o, g.pr b o → w'.cell? ⟨b, o, none⟩ = w.cell? ⟨b, o, none⟩ := fun b o hp => cell_block (hB.block b (cell_lt (h.cells b o hp)))
  have hx : Ext g w ⟨fun b o => g.pr b o ∨ S b o, g.top, g.row, g.nt⟩ w' :=
    ⟨fun b o hp => ⟨.inl hp, hc b o hp⟩, fun k _ => ⟨Nat.le_refl _, fun _ => rfl⟩, Nat.le_refl _, hB.size⟩
  refine ⟨_, hx, ?_, fun b o h => .inr h⟩
  have := Rel.step (τ := []) (ρ := σ) (σ := []) (w' := w') (g' := ⟨fun b o => g.pr b o ∨ S b o, g.top, g.row, g.nt⟩) h hx (fun r hr => by cases hr) List.Pairwise.nil ?_ (fun r hr k hk => rfl) (fun r hr => by cases hr) ?_ h.fresh (h.below.trans (hB.mono hlow))
  · exact this
  · intro r hr b hb
    have hlt := ((h.ok r hr).lt hb).2
    refine ⟨hB.block b hlt, fun o ho => ?_⟩
    rcases ho with ho | ho
    · exact ho
    · exact absurd (hS b o ho).1 (by omega)
  · intro b o hp
    rcases hp with hp | hp
    · rw [hc b o hp]; exact h.cells b o hp
    · exact (hS b o hp).2
/-- A call that is known by another proof, and that leaves old memory: its result may lean on new cells. -/
theorem sim_old {P : Program} {I : World → Prop} {f : FuncId} {args : List AV} {R : Out → List Rs → Prop} (he : Ent P f)
    (h : ∀ w0 g w vs, I w0 → Below w0.heap.size w0 w → VRs g w vs args → Calls P f vs.toArray w fun e w' => Below w.heap.size w w' ∧
      ∃ (S : Nat → Nat → Prop) (o : Out), (∀ b c, S b c → w.heap.size ≤ b ∧ (w'.cell? ⟨b, c, none⟩).isSome = true) ∧ (∀ g', Ext g w g' w' → (∀ b c, S b c → g'.pr b c) → o.is g' w' e) ∧ R o []) : Sim P I f args [] R := by
  refine ⟨he, fun w0 g w fr vs hI hR hv => ?_⟩
  refine (h w0 g w vs hI hR.below hv).mono ?_
  rintro e w' ⟨hB, S, o, hS, ho, hr⟩
  obtain ⟨g', h1, h2, h3⟩ := hR.old hB S hS
  exact ⟨g', [], o, h1, h2, ho g' h1 h3, hr⟩
/-- The same; the result is a value as it stands. -/
theorem sim_olds {P : Program} {I : World → Prop} {f : FuncId} {args : List AV} {v : Value} (he : Ent P f)
    (h : ∀ w0 g w vs, I w0 → Below w0.heap.size w0 w → VRs g w vs args → Calls P f vs.toArray w fun e w' => e = .returned v ∧ Below w.heap.size w w') : Sim P I f args [] (fun o τ => o = .ret (.sc v) ∧ τ = []) := by
  refine sim_old he fun w0 g w vs hI hB hv => (h w0 g w vs hI hB hv).mono ?_
  rintro e w' ⟨rfl, h1⟩
  exact ⟨h1, fun _ _ => False, .ret (.sc v), fun b c hf => hf.elim, fun g' hx _ => .sc v, rfl, rfl⟩
/-- A variable that is not written any more: its address is a value by what stands there. -/
theorem aw_freeze {P : Program} {I : World → Prop} {N : Nat} {c : Code} {Q : Exit → Env → List Rs → Prop} {env : Env} {σ τ : List Rs} (d : Tmp) {b : Nat} {cs : List AV} {t : TypeId}
    (hv : env.get d = .sc (.pointer (some ⟨b, 0, none⟩))) (hp : σ.Perm (.box b cs t :: τ)) (h1 : ∀ x, x ∈ cs → x.one = true) (k : AW P I N c Q ((d, .ep cs) :: env) τ) : AW P I N c Q env σ := by
  constructor
  intro w0 gz wz g a w fr hI hx hR hE
  have hR1 : Rel w0 g ([.box b cs t] ++ (τ ++ fr)) w := hR.perm (by simpa using hp.append_right fr)
  obtain ⟨k1, ⟨vs, fz, k2, kz, k3, k4⟩, k5⟩ := hR1.ok _ (List.mem_cons_self ..)
  have hcell : ∀ (o : Nat), w.cell? ⟨b, o, none⟩ = vs[o]? := fun o => by simp [World.cell?, k2]
  have hlen : vs.size = cs.length := by have := k3.1; simpa using this
  let g' : Gh := ⟨fun b' o => g.pr b' o ∨ (b' = b ∧ o < cs.length), g.top, g.row, g.nt⟩
  have hx' : Ext g w g' w := ⟨fun b' o hp => ⟨.inl hp, rfl⟩, fun k _ => ⟨Nat.le_refl _, fun _ => rfl⟩, Nat.le_refl _, Nat.le_refl _⟩
  have hR' : Rel w0 g' ([] ++ (τ ++ fr)) w := by
    refine Rel.step hR1 hx' (fun r hr => by cases hr) List.Pairwise.nil ?_ (fun r hr k hk => rfl) (fun r hr => by cases hr) ?_ hR1.fresh hR1.below
    · intro r hr b' hb'
      refine ⟨rfl, fun o ho => ?_⟩
      rcases ho with ho | ⟨rfl, _⟩
      · exact ho
      · exact absurd hb' ((hR1.apart_of (List.mem_singleton_self _) hr).1 _ rfl)
    · intro b' o ho
      rcases ho with ho | ⟨rfl, ho⟩
      · exact hR1.cells b' o ho
      · rw [hcell o, Array.getElem?_eq_getElem (by omega)]; rfl
  refine k.run w0 gz wz g' a w fr hI (hx.trans hx') hR' ⟨hE.size, hE.defers, fun t' => ?_⟩
  show VR g' w (a.tmps.getD t' undef) (bif Nat.beq d t' then .ep cs else env.get t')
  by_cases e : d = t'
  · subst e
    rw [show Nat.beq d d = true by simp, cond_true]
    have h2 := hE.val d
    rw [hv] at h2
    rw [h2.bool]
    refine .ep b 0 cs (fun j => vs.toList.getD j undef) (fun j hj => ?_) (fun j y hy => ?_) h1
    · refine ⟨?_, .inr ⟨rfl, by omega⟩⟩
      rw [Nat.zero_add, hcell j, List.getD_eq_getElem?_getD, Array.getElem?_toList, Array.getElem?_eq_getElem (by omega)]
      rfl
    · obtain ⟨v, hv1, hv2⟩ := k3.get hy
      rw [List.getD_eq_getElem?_getD, hv1]
      exact hv2.mono hx'
  · rw [show Nat.beq d t' = false by cases h : Nat.beq d t' with | false => rfl | true => exact absurd (Nat.eq_of_beq_eq_true h) e, cond_false]
    exact (hE.val t').mono hx'
section
variable {P : Program} [Tys P] {I : World → Prop} {N : Nat} {ops : Array Oper} {md : Md} {Q : Exit → Env → List Rs → Prop} {H : List (Nat × Option Rs)} {i : Nat} {c : List Nat} {env : Env} {σ σ1 : List Rs} {d : Option Tmp} {tt : TypeId} {ps : String} {af : Array Edge} {gd : Option (Nat × Bool)}
/-- A region that draws, known by how many operations it has. -/
theorem s_drawn {id : Nat} {Q : Exit → Env → List Rs → Prop} (n : Nat) (effs : List Nat) (k : Der P I N ops (drawMd ops effs) Q [] (List.range ops.size) env σ) (hn : ops.size = n := by rfl) (hok : orderOk ops effs (List.range ops.size) = true := by decide +kernel) (hal : alOk P N ops = true := by decide +kernel) : AW P I N (.region id ops true) Q env σ := s_draw effs k hok hal
/-- A new variable, in a region that draws. -/
theorem s_allocd {e : TypeId} {T : Ty} (k : ∀ b, Der P I N ops md Q H c (env.put d (.sc (.pointer (some ⟨b, 0, none⟩)))) (.box b T.zl e :: σ)) (ht : ty P e = some T := by rfl) (h1 : T.zero.cells.toList.all Value.oneCell' = true := by rfl) (hm : md.okA i = true := by rfl) : At P I N ops md Q H i c ⟨d, .alloc e, tt, ps, af, none⟩ env σ :=
  ⟨fun ho hw hd => .al H i c _ e env σ ho rfl hd rfl (fun env => by
    have := ef_alloc (P := P) (I := I) (d := d) (tt := tt) (ps := ps) (af := af) (gd := none) (env := env) ht h1
    rw [(ty_ok ht).zl] at this
    rw [zlOf_ty ht]
    exact this) hm (by rw [zlOf_ty ht]; exact k)⟩
/-- A slice literal that is appended to, in a region that draws. -/
theorem s_litd {t e : TypeId} {len es : Nat} {parts : Array (Nat × Operand)} {T E : Ty} {vs : List AV} (k : ∀ b, Der P I N ops md Q H c (env.put d (.os b es vs)) (.tok b e es vs.length :: σ)) (ht : ty P t = some T := by rfl) (hs : T.sh = .sl e := by rfl) (he : ty P e = some E := by rfl) (hes : E.size = es := by first | exact (rfl : _ = 6) | exact (rfl : _ = 1) | exact (rfl : _ = 2) | exact (rfl : _ = 5) | rfl)
    (hv : Elts env es 0 parts.toList vs := by repeat' (first | exact Go.Dp.Elts.nil _ | (apply Go.Dp.Elts.cons; (first | exact (rfl : _ = Go.Dp.AV.ag _) | exact (rfl : _ = Go.Dp.AV.sc _) | rfl); rfl; rfl))) (hlen : vs.length = len := by rfl)
    (hpos : Nat.blt 0 (len * es) = true := by rfl) (hle : Nat.ble (len * es) 16777216 = true := by rfl) (hag : (bif E.sh.agg then aggs es vs else (Nat.beq es 1 && vs.all AV.single)) = true := by rfl) (hk : keepOk md i σ H := by ((repeat' (first | exact trivial | (refine And.intro (fun h => ?_) ?_) | exact absurd h (by decide +kernel) | exact Go.Dp.Pick.mem (by ((repeat (first | exact Go.Dp.Pick.here _ | apply Go.Dp.Pick.there)); (first | done | fail))))); (first | done | fail))) (hm : md.okE i = true := by rfl) : At P I N ops md Q H i c ⟨d, .buildSlice t len parts, tt, ps, af, gd⟩ env σ :=
  s_slice k ht hs he hes hv hlen hpos hle hag hk hm
end
theorem VRs.scalars {g : Gh} {w : World} : ∀ {vs us : List Value}, VRs g w vs (us.map .sc) → vs = us
  | [], [], _ => rfl
  | [], _ :: _, h => by have := h.1; simp at this
  | _ :: _, [], h => by have := h.1; simp at this
  | v :: vs, u :: us, h => by
    have h1 := h.2 0 v (.sc u) rfl rfl
    have h2 : VRs g w vs (us.map .sc) := ⟨by have := h.1; simpa using this, fun i x y hx hy => h.2 (i + 1) x y (by simpa using hx) (by simpa using hy)⟩
    rw [h1.bool, VRs.scalars h2]
end Go.Dp
/- Deep values: maps. Conditions: none. -/
namespace Go.Dp
open Go.RowKit
set_option linter.unusedVariables false
/-- What a map's keys have to keep. -/
structure KeyL (P : Program) (kt : TypeId) (K : Value → Prop) : Prop where
  check : ∀ (w : World) (em : Bool) (v : Value), K v → (Instr.checkKey em 10000 kt v).run P w = .ok () w
  find : ∀ (w : World) (x : Value), K x → ∀ es : List MapEntry, (∀ e, e ∈ es → K e.key) →
    ((Instr.findKey kt x es).run P w = .ok none w ∧ ∀ e, e ∈ es → e.key ≠ x) ∨ ∃ j e, (Instr.findKey kt x es).run P w = .ok (some (j, e.val)) w ∧ es[j]? = some e ∧ e.key = x
  stays : ∀ (w : World) (v : Value), K v → (Instr.keyThatStays v v).run P w = .ok v w
def IsStr (v : Value) : Prop := ∃ s, v = .string s
theorem keyL_str {P : Program} {kt : TypeId} (hk : P.underlying kt = some .string) : KeyL P kt IsStr := by
  have key : ∀ {v : Value}, IsStr v → MapKept.IsKey .string v := by
    rintro v ⟨s, rfl⟩
    simp [MapKept.IsKey]
  refine ⟨fun w em v hv => MapKept.run_checkKey hk (key hv) em _, fun w x hx es hes => ?_, fun w v hv => MapKept.run_keyThatStays (key hv)⟩
  rcases MapKept.findNow_spec (key hx) es 0 (fun e he => key (hes e he)) with ⟨h1, h2⟩ | ⟨j, e, h1, h2, h3⟩
  · exact .inl ⟨MapKept.run_findKey hk h1, h2⟩
  · rw [Nat.zero_add] at h1
    exact .inr ⟨j, e, MapKept.run_findKey hk h1, h2, h3⟩
theorem nodup_get {α : Type} {l : List α} (h : l.Nodup) {i j : Nat} {x : α} (hi : l[i]? = some x) (hj : l[j]? = some x) : i = j := by
  obtain ⟨h1, e1⟩ := List.getElem?_eq_some_iff.1 hi
  obtain ⟨h2, e2⟩ := List.getElem?_eq_some_iff.1 hj
  rcases Nat.lt_trichotomy i j with hl | hl | hl
  · exact absurd (e1.trans e2.symm) (List.pairwise_iff_getElem.1 h i j h1 h2 hl)
  · exact hl
  · exact absurd (e2.trans e1.symm) (List.pairwise_iff_getElem.1 h j i h2 h1 hl)
/-- The zero of a type, as a deep value. -/
inductive ZeroV (E : Ty) : AV → Prop
  | ag {xs : Array Value} (h : E.zero = .agg xs) (h1 : xs.toList.all Value.oneCell' = true) : ZeroV E (.ag (xs.toList.map .sc))
  | sc {v : Value} (h : E.zero = v) : ZeroV E (.sc v)
theorem ZeroV.vr {E : Ty} {v : AV} (h : ZeroV E v) (g : Gh) (w : World) : VR g w E.zero v := by
  cases h with
  | ag h h1 =>
    rw [h]
    refine .ag _ _ (by simp) (fun i x y hx hy => ?_) (fun y hy => ?_)
    · rw [List.getElem?_map, Array.getElem?_toList, hx] at hy
      cases hy
      exact .sc x
    · obtain ⟨u, hu, rfl⟩ := List.mem_map.1 hy
      exact List.all_eq_true.1 h1 u hu
  | sc h => rw [h]; exact .sc _
section
variable {P : Program} [Tys P] {I : World → Prop} {env : Env} {d : Option Tmp} {tt : TypeId} {ps : String} {af : Array Edge} {gd : Option (Nat × Bool)}
omit [Tys P] in
/-- A new map. -/
theorem ef_makeMap {t : TypeId} : EfS P I ⟨d, .makeMap t none, tt, ps, af, gd⟩ env [] (fun x τ' => ∃ b, x = .sc (.map (some b)) ∧ τ' = [.mp b []]) (fun _ _ => False) := by
  refine ef_val (fun w0 g a w fr hI hR hE => ?_)
  have hR : Rel w0 g fr w := hR
  have hold : ∀ b, b < w.heap.size → (w.alloc (.map #[] 0)).heap[b]? = w.heap[b]? := fun b hb => Below.heap_alloc w _ b hb
  have hx : Ext g w g (w.alloc (.map #[] 0)) := Ext.of_pr (by simp) fun b o hp => hold b (cell_lt (hR.cells b o hp))
  have h0 : Rel w0 g ([] ++ fr) w := hR
  have hlow : w0.heap.size ≤ w.heap.size := hR.below.size
  refine ⟨.map (some w.heap.size), g, w.alloc (.map #[] 0), _, _, by simp [execOp, Instr.makeMap, Result.andThen], hx, ?_, .sc _, w.heap.size, rfl, rfl⟩
  refine Rel.step (τ := [.mp w.heap.size []]) h0 hx ?_ (List.pairwise_singleton _ _) ?_ ?_ ?_ ?_ hR.fresh (hR.below.alloc hlow _)
  · intro r hr
    rw [List.mem_singleton] at hr
    subst hr
    exact ⟨hlow, ⟨#[], 0, heap_alloc_new w _, rfl, VRs.nil _ _, List.nodup_nil⟩, fun o ho => absurd (cell_lt (hR.cells _ _ ho)) (Nat.lt_irrefl _)⟩
  · exact fun r hr b hb => ⟨hold b ((hR.ok r hr).lt hb).2, fun o ho => ho⟩
  · exact fun r hr k hk => rfl
  · intro r hr s hs
    rw [List.mem_singleton] at hr
    subst hr
    exact ⟨fun b hb hc => by cases hb; exact absurd ((hR.ok s hs).lt hc).2 (Nat.lt_irrefl _), fun k hk => by cases hk⟩
  · intro b o hp
    rw [cell_block (hold b (cell_lt (hR.cells b o hp)))]
    exact hR.cells b o hp
theorem keys_of {K : Value → Prop} {kvs : List (Value × AV)} {es : List MapEntry} (h : es.map (·.key) = kvs.map (·.1)) (hK : ∀ p, p ∈ kvs → K p.1) : ∀ e, e ∈ es → K e.key := by
  intro e he
  have : e.key ∈ es.map (·.key) := List.mem_map_of_mem he
  rw [h] at this
  obtain ⟨p, hp, e1⟩ := List.mem_map.1 this
  exact e1 ▸ hK p hp
theorem at_of {kvs : List (Value × AV)} {es : List MapEntry} (h : es.map (·.key) = kvs.map (·.1)) {j : Nat} {e : MapEntry} (he : es[j]? = some e) : ∃ v, kvs[j]? = some (e.key, v) := by
  have : (es.map (·.key))[j]? = some e.key := by rw [List.getElem?_map, he]; rfl
  rw [h, List.getElem?_map] at this
  cases hk : kvs[j]? with
  | none => rw [hk] at this; cases this
  | some p =>
    rw [hk] at this
    injection this with this
    exact ⟨p.2, by rw [← this]⟩
/-- A key that is there. -/
theorem rd_lookup {t kt et : TypeId} {x y : Operand} {ok : Bool} {T : Ty} {K : Value → Prop} {b : Nat} {kvs : List (Value × AV)} {k : Value} {v : AV} (hx : env.val x = .sc (.map (some b))) (hy : ∀ g w u, VR g w u (env.val y) → u = k) (ht : ty P t = some T) (hs : T.sh = .mp kt et) (hL : KeyL P kt K)
    (hK : ∀ p, p ∈ kvs → K p.1) {j : Nat} (hj : kvs[j]? = some (k, v)) : RdS P I ⟨d, .lookup t x y ok, tt, ps, af, gd⟩ env (some (.mp b kvs)) (bif ok then .tu [v, .sc (.bool true)] else v) := by
  obtain ⟨ds, i, hu, hs', hi, hz, hsz, _⟩ := (ty_ok ht).get
  have hud : P.underlying t = some (.map kt et) := by
    rw [hu]
    rw [hs] at hs'
    cases ds <;> simp [shOf] at hs' <;> (try (split at hs' <;> simp at hs')) <;> simp_all
  refine rd_val (fun w0 g a w fr hI hR hr hE => ?_)
  have h1 := hE x (by simp [Op.operands])
  rw [hx] at h1
  have h2 := hy g w _ (hE y (by simp [Op.operands]))
  obtain ⟨_, ⟨es, clock, e1, e2, e3, e4⟩, _⟩ := hR.ok _ (hr _ rfl)
  have hk : K k := hK _ (List.mem_of_getElem? hj)
  rcases hL.find w k hk es.toList (keys_of e2 hK) with ⟨f1, f2⟩ | ⟨j', e, f1, f2, f3⟩
  · exfalso
    have : k ∈ es.toList.map (·.key) := by rw [e2]; exact List.mem_map.2 ⟨_, List.mem_of_getElem? hj, rfl⟩
    obtain ⟨e, he, hek⟩ := List.mem_map.1 this
    exact f2 e he hek
  · obtain ⟨v', hv'⟩ := at_of e2 f2
    rw [f3] at hv'
    have hjj : j' = j := nodup_get e4 (by rw [List.getElem?_map, hv']; rfl) (by rw [List.getElem?_map, hj]; rfl)
    subst hjj
    rw [hj] at hv'
    cases hv'
    have hval : VR g w e.val v := e3.2 j' _ _ (by rw [List.getElem?_map, f2]; rfl) (by rw [List.getElem?_map, hj]; rfl)
    cases ok with
    | true =>
      refine ⟨.tuple #[e.val, .bool true], g, w, ?_, Ext.refl g w, hR, .tu _ _ rfl fun i x y hx hy => ?_⟩
      · simp [execOp, h1.bool, h2, Instr.lookup, run_underlying hud, MapKept.run_getObj_map e1, hL.check _ _ _ hk, f1, Result.andThen]
      · match i with
        | 0 => cases hx; cases hy; exact hval
        | 1 => cases hx; cases hy; exact .sc _
        | n + 2 => simp at hx
    | false =>
      refine ⟨e.val, g, w, ?_, Ext.refl g w, hR, hval⟩
      simp [execOp, h1.bool, h2, Instr.lookup, run_underlying hud, MapKept.run_getObj_map e1, hL.check _ _ _ hk, f1, Result.andThen]
/-- A key that is not there. -/
theorem rd_lookup0 {t kt et : TypeId} {x y : Operand} {ok : Bool} {T E : Ty} {K : Value → Prop} {b : Nat} {kvs : List (Value × AV)} {k : Value} {v : AV} (hx : env.val x = .sc (.map (some b))) (hy : ∀ g w u, VR g w u (env.val y) → u = k) (ht : ty P t = some T) (hs : T.sh = .mp kt et) (he : ty P et = some E) (hL : KeyL P kt K)
    (hK : ∀ p, p ∈ kvs → K p.1) (hk : K k) (hn : ∀ p, p ∈ kvs → p.1 ≠ k) (hv : ∀ g w, VR g w E.zero v) : RdS P I ⟨d, .lookup t x y ok, tt, ps, af, gd⟩ env (some (.mp b kvs)) (bif ok then .tu [v, .sc (.bool false)] else v) := by
  obtain ⟨ds, i, hu, hs', hi, hz, hsz, _⟩ := (ty_ok ht).get
  obtain ⟨ds2, i2, hu2, hs2, hi2, hz2, hsz2, _⟩ := (ty_ok he).get
  have hud : P.underlying t = some (.map kt et) := by
    rw [hu]
    rw [hs] at hs'
    cases ds <;> simp [shOf] at hs' <;> (try (split at hs' <;> simp at hs')) <;> simp_all
  refine rd_val (fun w0 g a w fr hI hR hr hE => ?_)
  have h1 := hE x (by simp [Op.operands])
  rw [hx] at h1
  have h2 := hy g w _ (hE y (by simp [Op.operands]))
  obtain ⟨_, ⟨es, clock, e1, e2, e3, e4⟩, _⟩ := hR.ok _ (hr _ rfl)
  rcases hL.find w k hk es.toList (keys_of e2 hK) with ⟨f1, f2⟩ | ⟨j', e, f1, f2, f3⟩
  · cases ok with
    | true =>
      refine ⟨.tuple #[E.zero, .bool false], g, w, ?_, Ext.refl g w, hR, .tu _ _ rfl fun i x y hx hy => ?_⟩
      · simp [execOp, h1.bool, h2, Instr.lookup, run_underlying hud, MapKept.run_getObj_map e1, hL.check _ _ _ hk, f1, run_zero w hi2 hz2, Result.andThen]
      · match i with
        | 0 => cases hx; cases hy; exact hv g w
        | 1 => cases hx; cases hy; exact .sc _
        | n + 2 => simp at hx
    | false =>
      refine ⟨E.zero, g, w, ?_, Ext.refl g w, hR, hv g w⟩
      simp [execOp, h1.bool, h2, Instr.lookup, run_underlying hud, MapKept.run_getObj_map e1, hL.check _ _ _ hk, f1, run_zero w hi2 hz2, Result.andThen]
  · exfalso
    obtain ⟨v', hv'⟩ := at_of e2 f2
    exact hn _ (List.mem_of_getElem? hv') f3
omit [Tys P] in
theorem Rel.setMap {w0 w : World} {g : Gh} {fr : List Rs} {b : Nat} {kvs kvs' : List (Value × AV)} (h : Rel w0 g (.mp b kvs :: fr) w) {es' : Array MapEntry} {clock' : Nat} (h2 : es'.toList.map (·.key) = kvs'.map (·.1)) (h3 : VRs g w (es'.toList.map (·.val)) (kvs'.map (·.2))) (h4 : (kvs'.map (·.1)).Nodup) :
    Ext g w g { w with heap := w.heap.setIfInBounds b (.map es' clock') } ∧ Rel w0 g (.mp b kvs' :: fr) { w with heap := w.heap.setIfInBounds b (.map es' clock') } := by
  obtain ⟨k1, ⟨es, clock, k2, _⟩, k5⟩ := h.ok _ (List.mem_cons_self ..)
  obtain ⟨m1, m2⟩ := MapKept.heap_set (w := w) (o' := .map es' clock') k2
  have hx : Ext g w g { w with heap := w.heap.setIfInBounds b (.map es' clock') } := Ext.of_pr (by simp) fun c o hp => m2 c (fun e => k5 o (e ▸ hp))
  refine ⟨hx, ?_⟩
  have h0 : Rel w0 g ([.mp b kvs] ++ fr) w := h
  refine Rel.step (τ := [.mp b kvs']) h0 hx ?_ (List.pairwise_singleton _ _) ?_ (fun r hr k hk => rfl) ?_ ?_ h.fresh ?_
  · intro r hr
    rw [List.mem_singleton] at hr
    subst hr
    exact ⟨k1, ⟨es', clock', m1, h2, h3.mono hx, h4⟩, k5⟩
  · intro r hr c hc
    refine ⟨m2 c (fun e => ?_), fun o ho => ho⟩
    subst e
    exact (h0.apart_of (List.mem_singleton_self _) hr).1 _ rfl hc
  · intro r hr s hs
    rw [List.mem_singleton] at hr
    subst hr
    exact ⟨(h0.apart_of (List.mem_singleton_self _) hs).1, fun k hk => by cases hk⟩
  · intro c o hp
    rw [cell_block (m2 c (fun e => k5 o (e ▸ hp)))]
    exact h.cells c o hp
  · exact h.below.trans ⟨rfl, rfl, rfl, by simp, fun c hc => m2 c (by omega)⟩
/-- A key that is new. -/
theorem ef_mapNew {t kt et : TypeId} {x y z : Operand} {T : Ty} {K : Value → Prop} {b : Nat} {kvs : List (Value × AV)} {k : Value} {v : AV} (hx : env.val x = .sc (.map (some b))) (hy : ∀ g w u, VR g w u (env.val y) → u = k) (hz : env.val z = v) (ht : ty P t = some T) (hs : T.sh = .mp kt et) (hL : KeyL P kt K)
    (hK : ∀ p, p ∈ kvs → K p.1) (hk : K k) (hn : ∀ p, p ∈ kvs → p.1 ≠ k) : EfS P I ⟨d, .mapUpdate t x y z, tt, ps, af, gd⟩ env [.mp b kvs] (fun x τ' => x = .un ∧ τ' = [.mp b (kvs ++ [(k, v)])]) (fun _ _ => False) := by
  obtain ⟨ds, i, hu, hs', hi, hz', hsz, _⟩ := (ty_ok ht).get
  have hud : P.underlying t = some (.map kt et) := by
    rw [hu]
    rw [hs] at hs'
    cases ds <;> simp [shOf] at hs' <;> (try (split at hs' <;> simp at hs')) <;> simp_all
  refine ef_skip (fun w0 g a w fr hI hR hE => ?_)
  have hR : Rel w0 g (.mp b kvs :: fr) w := hR
  have h1 := hE x (by simp [Op.operands])
  rw [hx] at h1
  have h2 := hy g w _ (hE y (by simp [Op.operands]))
  have h3 := hE z (by simp [Op.operands])
  rw [hz] at h3
  obtain ⟨_, ⟨es, clock, e1, e2, e3, e4⟩, _⟩ := hR.ok _ (List.mem_cons_self ..)
  rcases hL.find w k hk es.toList (keys_of e2 hK) with ⟨f1, f2⟩ | ⟨j', e, f1, f2, f3⟩
  · obtain ⟨r1, r2⟩ := Rel.setMap (kvs' := kvs ++ [(k, v)]) (es' := es.push { key := k, val := a.eval z, born := clock }) (clock' := clock + 1) hR (by simp [e2]) (by
        simp only [Array.toList_push, List.map_append, List.map_cons, List.map_nil]
        exact e3.append (VRs.cons h3 (VRs.nil _ _))) (by
        rw [List.map_append, List.nodup_append]
        refine ⟨e4, by simp, fun u hu v hv => ?_⟩
        obtain ⟨p, hp, rfl⟩ := List.mem_map.1 hu
        simp only [List.map_cons, List.map_nil, List.mem_singleton] at hv
        rw [hv]
        exact hn p hp)
    refine ⟨g, _, _, ?_, r1, r2, rfl, rfl⟩
    simp [execOp, h1.bool, h2, Instr.mapUpdate, run_underlying hud, MapKept.run_getObj_map e1, hL.check _ _ _ hk, f1, MapKept.run_setObj_map _ e1, Result.andThen]
  · exfalso
    obtain ⟨v', hv'⟩ := at_of e2 f2
    exact hn _ (List.mem_of_getElem? hv') f3
end
end Go.Dp
/- Deep values: steps for maps, pieces, and what is boxed in a region that draws. Conditions: none. -/
namespace Go.Dp
open Go.RowKit
set_option linter.unusedVariables false
section
variable {P : Program} [Tys P] {I : World → Prop} {N : Nat} {ops : Array Oper} {md : Md} {Q : Exit → Env → List Rs → Prop} {H : List (Nat × Option Rs)} {i : Nat} {c : List Nat} {env : Env} {σ σ1 : List Rs} {d : Option Tmp} {tt : TypeId} {ps : String} {af : Array Edge} {gd : Option (Nat × Bool)}
theorem VR.scal {g : Gh} {w : World} {u k : Value} {x : AV} (hx : x = .sc k) (h : VR g w u x) : u = k := by subst hx; exact h.bool
/-- A key that is there. -/
theorem s_lookup {t kt et : TypeId} {x y : Operand} {ok : Bool} {T : Ty} {K : Value → Prop} {b : Nat} {kvs : List (Value × AV)} {k : Value} {v : AV} {l : List Rs} (hL : KeyL P kt K) (hK : ∀ p, p ∈ kvs → K p.1) {j : Nat} (hj : kvs[j]? = some (k, v)) (kk : Der P I N ops md Q ((i, some (.mp b kvs)) :: H) c (env.put d (bif ok then .tu [v, .sc (.bool true)] else v)) σ)
    (hx : env.val x = .sc (.map (some b)) := by rfl) (hy : env.val y = .sc k := by rfl) (ht : ty P t = some T := by rfl) (hs : T.sh = .mp kt et := by rfl) (hp : Pick (.mp b kvs) σ l := by ((repeat (first | exact Go.Dp.Pick.here _ | apply Go.Dp.Pick.there)); (first | done | fail))) (hm : md.okR i = true := by rfl) : At P I N ops md Q H i c ⟨d, .lookup t x y ok, tt, ps, af, gd⟩ env σ :=
  at_rdb (rd_lookup hx (fun g w u h => h.scal hy) ht hs hL hK hj) hp hm kk
/-- A key that is not there. -/
theorem s_lookup0 {t kt et : TypeId} {x y : Operand} {ok : Bool} {T E : Ty} {K : Value → Prop} {b : Nat} {kvs : List (Value × AV)} {k : Value} {v : AV} {l : List Rs} (hL : KeyL P kt K) (hK : ∀ p, p ∈ kvs → K p.1) (hk : K k) (hn : ∀ p, p ∈ kvs → p.1 ≠ k) (kk : Der P I N ops md Q ((i, some (.mp b kvs)) :: H) c (env.put d (bif ok then .tu [v, .sc (.bool false)] else v)) σ)
    (hx : env.val x = .sc (.map (some b)) := by rfl) (hy : env.val y = .sc k := by rfl) (ht : ty P t = some T := by rfl) (hs : T.sh = .mp kt et := by rfl) (he : ty P et = some E := by rfl) (hv : ZeroV E v := by first | exact Go.Dp.ZeroV.ag rfl rfl | exact Go.Dp.ZeroV.sc rfl) (hp : Pick (.mp b kvs) σ l := by ((repeat (first | exact Go.Dp.Pick.here _ | apply Go.Dp.Pick.there)); (first | done | fail))) (hm : md.okR i = true := by rfl) : At P I N ops md Q H i c ⟨d, .lookup t x y ok, tt, ps, af, gd⟩ env σ :=
  at_rdb (rd_lookup0 hx (fun g w u h => h.scal hy) ht hs he hL hK hk hn hv.vr) hp hm kk
omit [Tys P] in
theorem s_makeMap {t : TypeId} (k : ∀ b, Der P I N ops md Q H c (env.put d (.sc (.map (some b)))) (.mp b [] :: σ)) (hk : keepOk md i σ H := by exact trivial) (hm : md.okE i = true := by rfl) : At P I N ops md Q H i c ⟨d, .makeMap t none, tt, ps, af, gd⟩ env σ :=
  at_ef ef_makeMap (.nil _) hk hm (fun x τ' hx => by
    obtain ⟨b, rfl, rfl⟩ := hx
    exact k b) (fun c τ' h => h.elim)
theorem s_mapNew {t kt et : TypeId} {x y z : Operand} {T : Ty} {K : Value → Prop} {b : Nat} {kvs : List (Value × AV)} {k : Value} {v : AV} (hL : KeyL P kt K) (hK : ∀ p, p ∈ kvs → K p.1) (hk : K k) (hn : ∀ p, p ∈ kvs → p.1 ≠ k) (kk : Der P I N ops md Q H c (env.put d .un) (.mp b (kvs ++ [(k, v)]) :: σ1))
    (hx : env.val x = .sc (.map (some b)) := by rfl) (hy : env.val y = .sc k := by rfl) (hz : env.val z = v := by first | exact (rfl : _ = Go.Dp.AV.ag _) | exact (rfl : _ = Go.Dp.AV.sc _) | rfl) (ht : ty P t = some T := by rfl) (hs : T.sh = .mp kt et := by rfl) (hp : Pick (.mp b kvs) σ σ1 := by ((repeat (first | exact Go.Dp.Pick.here _ | apply Go.Dp.Pick.there)); (first | done | fail)))
    (hko : keepOk md i σ1 H := by ((repeat' (first | exact trivial | (refine And.intro (fun h => ?_) ?_) | exact absurd h (by decide +kernel) | exact Go.Dp.Pick.mem (by ((repeat (first | exact Go.Dp.Pick.here _ | apply Go.Dp.Pick.there)); (first | done | fail))))); (first | done | fail))) (hm : md.okE i = true := by rfl) : At P I N ops md Q H i c ⟨d, .mapUpdate t x y z, tt, ps, af, gd⟩ env σ :=
  at_ef (ef_mapNew hx (fun g w u h => h.scal hy) hz ht hs hL hK hk hn) (.cons _ _ _ _ _ hp (.nil _)) hko hm (fun x τ' hx => by
    obtain ⟨rfl, rfl⟩ := hx
    exact kk) (fun c τ' h => h.elim)
omit [Tys P] in
theorem s_boxd {e : TypeId} {x : Operand} {cs : List AV} (k : ∀ b, Der P I N ops md Q H c (env.put d (.sc (.pointer (some ⟨b, 0, none⟩)))) (.box b cs e :: σ)) (hv : env.val x = .ag cs := by rfl) (h1 : ones cs = true := by (first | rfl | simp only [Go.Dp.ones, List.all_cons, List.all_nil, Bool.and_true, Go.Dp.one_int, Go.Dp.one_bool, Go.Dp.one_str, Go.Dp.one_ptr, Go.Dp.one_slice, Go.Dp.one_sl, Go.Dp.one_os, *]))
    (hk : keepOk md i σ H := by ((repeat' (first | exact trivial | (refine And.intro (fun h => ?_) ?_) | exact absurd h (by decide +kernel) | exact Go.Dp.Pick.mem (by ((repeat (first | exact Go.Dp.Pick.here _ | apply Go.Dp.Pick.there)); (first | done | fail))))); (first | done | fail))) (hm : md.okE i = true := by rfl) : At P I N ops md Q H i c ⟨d, .box e x, tt, ps, af, gd⟩ env σ := at_box hv h1 hk hm k
/-- What a slice has from a place on. -/
theorem s_from {t e : TypeId} {x lo : Operand} {T E : Ty} {xv : AV} {es : Nat} {rs : List AV} (l : Nat) (hl : l ≤ rs.length) (k : Der P I N ops md Q H c (env.put d (.sl es (rs.drop l))) σ) (hx : env.val x = xv := by first | exact (rfl : _ = Go.Dp.AV.sl _ _) | exact (rfl : _ = Go.Dp.AV.os _ _ _)) (hxs : xv.isSl es rs := by first | exact Go.Dp.isSl_sl _ _ | exact Go.Dp.isSl_os _ _ _)
    (hlo : env.val lo = .sc (.int .i64 (l : Int)) := by rfl) (ht : ty P t = some T := by rfl) (hsl : T.sh = .sl e := by rfl) (he : ty P e = some E := by rfl) (hes : E.size = es := by rfl) (hm : md.okR i = true := by rfl) : At P I N ops md Q H i c ⟨d, .slice t x (some lo) none none, tt, ps, af, gd⟩ env σ := by
  have := rd_cuts (P := P) (I := I) (d := d) (tt := tt) (ps := ps) (af := af) (gd := gd) (env := env) (t := t) (x := x) (lo := some lo) (hi := none) (l := l) (h := rs.length) hx hxs ht hsl he hes hlo rfl hl (Nat.le_refl _)
  rw [List.take_length] at this
  exact at_rd this hm k
end
/-- A nil slice, given to a function, as one that may be appended to. -/
theorem sim_niltok {P : Program} {I : World → Prop} {f : FuncId} {a1 a2 : List AV} {τ : List Rs} {R : Out → List Rs → Prop} (e : TypeId) (es : Nat) (h : ∀ k, Sim P I f (a1 ++ .os k es [] :: a2) (.tok k e es 0 :: τ) R) : Sim P I f (a1 ++ .sc (.slice none 0 0) :: a2) τ R := by
  refine ⟨(h 0).1, fun w0 g w fr vs hI hR hv => ?_⟩
  obtain ⟨g', r1, r2, r3⟩ := hR.nilrow e es
  refine ((h g.nt).2 w0 g' w fr vs hI r2 ?_).mono ?_
  · refine ⟨by have := hv.1; simpa using this, fun i v x hvi hxi => ?_⟩
    by_cases hi : i < a1.length
    · rw [List.getElem?_append_left hi] at hxi
      exact (hv.2 i v x hvi (by rw [List.getElem?_append_left hi]; exact hxi)).mono r1
    · rw [List.getElem?_append_right (by omega)] at hxi
      have hge : a1.length ≤ i := by omega
      have hv2 : ∀ y, (AV.sc (Value.slice none 0 0) :: a2)[i - a1.length]? = some y → VR g w v y := fun y hy => hv.2 i v y hvi (by rw [List.getElem?_append_right hge]; exact hy)
      cases hj : i - a1.length with
      | zero =>
        rw [hj] at hxi hv2
        cases hxi
        rw [(hv2 _ rfl).bool]
        exact r3
      | succ n =>
        rw [hj] at hxi hv2
        exact (hv2 _ hxi).mono r1
  · rintro e' w' ⟨g2, σ', o, h1, h2, h3, h4⟩
    exact ⟨g2, σ', o, r1.trans h1, h2, h3, h4⟩
end Go.Dp
/- Deep values: cuts of a walk. Conditions: none. -/
namespace Go.Dp
open Go.RowKit
set_option linter.unusedVariables false
/-- What stands behind the first of two. -/
def sndC : Code → Code
  | .seq _ y => y
  | c => c
def bodyC (f : Func) : Code := f.body.getD .skip
/-- Go on from less. -/
theorem aw_to {P : Program} {I : World → Prop} {N : Nat} {c : Code} {Q : Exit → Env → List Rs → Prop} {env env' : Env} {σ σ' dr : List Rs} (h : AW P I N c Q env' σ') (hE : EnvLe env env') (hp : Picks σ' σ dr) : AW P I N c Q env σ :=
  ⟨fun w0 gz wz g a w fr hI hx hR hEn => h.run w0 gz wz g a w fr hI hx (hR.drop hp.perm) (hEn.less hE)⟩
section
variable {P : Program} [Tys P] {I : World → Prop} {N : Nat} {ops : Array Oper} {md : Md} {Q : Exit → Env → List Rs → Prop} {H : List (Nat × Option Rs)} {i : Nat} {c : List Nat} {env : Env} {σ : List Rs} {d : Option Tmp} {tt : TypeId} {ps : String} {af : Array Edge} {gd : Option (Nat × Bool)}
/-- A slice literal; of its parts it is known that they are single cells. -/
theorem s_lito {t e : TypeId} {len es : Nat} {parts : Array (Nat × Operand)} {T E : Ty} {vs : List AV} (k : Der P I N ops md Q H c (env.put d (.sl es vs)) σ) (ht : ty P t = some T := by rfl) (hs : T.sh = .sl e := by rfl) (he : ty P e = some E := by rfl) (hes : E.size = es := by first | exact (rfl : _ = 6) | exact (rfl : _ = 1) | exact (rfl : _ = 2) | exact (rfl : _ = 5) | rfl)
    (hv : Elts env es 0 parts.toList vs := by repeat' (first | exact Go.Dp.Elts.nil _ | (apply Go.Dp.Elts.cons; (first | exact (rfl : _ = Go.Dp.AV.ag _) | exact (rfl : _ = Go.Dp.AV.sc _) | rfl); rfl; (first | rfl | simp only [Go.Dp.AV.cells, Go.Dp.ones, List.all_cons, List.all_nil, Bool.and_true, Go.Dp.one_int, Go.Dp.one_bool, Go.Dp.one_str, Go.Dp.one_ptr, Go.Dp.one_slice, Go.Dp.one_sl, Go.Dp.one_os, *])))) (hlen : vs.length = len := by rfl)
    (hpos : Nat.blt 0 (len * es) = true := by rfl) (hle : Nat.ble (len * es) 16777216 = true := by rfl) (hag : (bif E.sh.agg then aggs es vs else (Nat.beq es 1 && vs.all AV.single)) = true := by rfl) (hm : md.okR i = true := by rfl) : At P I N ops md Q H i c ⟨d, .buildSlice t len parts, tt, ps, af, gd⟩ env σ :=
  at_rd (rd_slice ht hs he hes hv hlen hpos hle hag) hm k
end
end Go.Dp
/- Deep values: maps whose keys are a string and a bool. Conditions: none. -/
namespace Go.Dp
open Go.RowKit
set_option linter.unusedVariables false
def IsSB (v : Value) : Prop := ∃ (s : ByteArray) (b : Bool), s.size ≤ maxLen ∧ v = .agg #[.string s, .bool b]
theorem keyOf_sb {P : Program} {k : TypeId} {fs : Array Field} {f1 f2 : Field} (hu : P.underlying k = some (.struct fs)) (hfs : fs.toList = [f1, f2]) (t1 : P.underlying f1.type = some .string) (t2 : P.underlying f2.type = some .bool)
    (o1 : f1.offset = 0) (o2 : f2.offset = 1) (c1 : P.cellsOf f1.type = 1) (c2 : P.cellsOf f2.type = 1) (ck : P.cellsOf k = 2) (hn : fs.all (·.name != "_") = true) (hk : P.keyType k = true) (hsz : 0 < P.types.size) (s : ByteArray) (b : Bool) (hs : s.size ≤ maxLen) :
    ∃ l, keyOf P k (.agg #[.string s, .bool b]) = some l := by
  obtain ⟨d, hd⟩ : ∃ d, P.types.size = d + 1 := ⟨P.types.size - 1, by omega⟩
  have k1 : P.keyLits (d + 1) f1.type [.string s] = some [.string s.data.toList] := by
    rw [Program.keyLits.eq_def]
    simp only [t1]
    rw [if_pos hs]
  have k2 : P.keyLits (d + 1) f2.type [.bool b] = some [.bool b] := by
    rw [Program.keyLits.eq_def]
    simp only [t2]
  have e : P.keyLits (P.types.size + 1) k [.string s, .bool b] = some [.string s.data.toList, .bool b] := by
    rw [hd, Program.keyLits.eq_def]
    simp only [hu]
    rw [if_pos ⟨by rw [ck]; rfl, hn⟩, hfs]
    simp [o1, o2, c1, c2, k1, k2]
  refine ⟨.string (keyBytes [.string s.data.toList, .bool b]), ?_⟩
  unfold keyOf
  simp only [hu]
  rw [if_pos]
  · show (P.keyLits (P.types.size + 1) k [.string s, .bool b]).map _ = _
    rw [e]; rfl
  · rw [hk, Bool.true_and]
    simp [Value.formed, hu, ck]
theorem keyL_sb {P : Program} {k : TypeId} {fs : Array Field} {f1 f2 : Field} (hu : P.underlying k = some (.struct fs)) (hfs : fs.toList = [f1, f2]) (t1 : P.underlying f1.type = some .string) (t2 : P.underlying f2.type = some .bool)
    (o1 : f1.offset = 0) (o2 : f2.offset = 1) (c1 : P.cellsOf f1.type = 1) (c2 : P.cellsOf f2.type = 1) (ck : P.cellsOf k = 2) (hn : fs.all (·.name != "_") = true) (hk : P.keyType k = true) (hsz : 0 < P.types.size) (hk2 : P.keyTypeAt 2 k = true) (ht : P.tiled 2 k = true) : KeyL P k IsSB := by
  have hwide : (match P.underlying k with | some (.array _ _) | some (.struct _) => true | _ => false) = true := by rw [hu]
  have K := deep_law (m := 2) (by omega) hk2 ht hwide
  have key : ∀ {v : Value}, IsSB v → ∃ l, keyOf P k v = some l := by
    rintro v ⟨s, b, hs, rfl⟩
    exact keyOf_sb hu hfs t1 t2 o1 o2 c1 c2 ck hn hk hsz s b hs
  refine ⟨fun w em v hv => ?_, fun w x hx es hes => ?_, fun w v hv => ?_⟩
  · obtain ⟨l, hl⟩ := key hv
    exact K.check w em hl
  · obtain ⟨l, hl⟩ := key hx
    exact K.find w hl es fun e he => key (hes e he)
  · obtain ⟨l, hl⟩ := key hv
    exact K.stays w hl
theorem vr_sb {g : Gh} {w : World} {u : Value} {s : ByteArray} {b : Bool} (h : VR g w u (.ag [.sc (.string s), .sc (.bool b)])) : u = .agg #[.string s, .bool b] := by
  cases h with
  | ag xs cs hl h h3 =>
    have e0 : xs[0]? = some (.string s) := by
      rw [Array.getElem?_eq_getElem (by simp at hl; omega)]
      exact congrArg some (h 0 _ _ (Array.getElem?_eq_getElem (by simp at hl; omega)) rfl).bool
    have e1 : xs[1]? = some (.bool b) := by
      rw [Array.getElem?_eq_getElem (by simp at hl; omega)]
      exact congrArg some (h 1 _ _ (Array.getElem?_eq_getElem (by simp at hl; omega)) rfl).bool
    congr 1
    refine Array.ext' (List.ext_getElem? fun i => ?_)
    rw [Array.getElem?_toList]
    match i with
    | 0 => rw [e0]; rfl
    | 1 => rw [e1]; rfl
    | n + 2 => rw [Array.getElem?_eq_none (by simp at hl; omega)]; rfl
section
variable {P : Program} [Tys P] {I : World → Prop} {N : Nat} {ops : Array Oper} {md : Md} {Q : Exit → Env → List Rs → Prop} {H : List (Nat × Option Rs)} {i : Nat} {c : List Nat} {env : Env} {σ σ1 : List Rs} {d : Option Tmp} {tt : TypeId} {ps : String} {af : Array Edge} {gd : Option (Nat × Bool)}
/-- A key of cells that is there; in the order of the text. -/
theorem s_lookupK {t kt et : TypeId} {x y : Operand} {ok : Bool} {T : Ty} {K : Value → Prop} {b : Nat} {kvs : List (Value × AV)} {k : Value} {yv v : AV} {l : List Rs} (hL : KeyL P kt K) (hK : ∀ p, p ∈ kvs → K p.1) {j : Nat} (hj : kvs[j]? = some (k, v)) (hyk : ∀ g w u, VR g w u yv → u = k) (kk : Der P I N ops seqMd Q [] c (env.put d (bif ok then .tu [v, .sc (.bool true)] else v)) σ)
    (hx : env.val x = .sc (.map (some b)) := by rfl) (hy : env.val y = yv := by rfl) (ht : ty P t = some T := by rfl) (hs : T.sh = .mp kt et := by rfl) (hp : Pick (.mp b kvs) σ l := by ((repeat (first | exact Go.Dp.Pick.here _ | apply Go.Dp.Pick.there)); (first | done | fail))) : At P I N ops seqMd Q [] i c ⟨d, .lookup t x y ok, tt, ps, af, gd⟩ env σ :=
  at_rds (rd_lookup hx (fun g w u h => hyk g w u (hy ▸ h)) ht hs hL hK hj) hp kk
/-- A key of cells that is not there. -/
theorem s_lookupK0 {t kt et : TypeId} {x y : Operand} {ok : Bool} {T E : Ty} {K : Value → Prop} {b : Nat} {kvs : List (Value × AV)} {k : Value} {yv v : AV} {l : List Rs} (hL : KeyL P kt K) (hK : ∀ p, p ∈ kvs → K p.1) (hk : K k) (hn : ∀ p, p ∈ kvs → p.1 ≠ k) (hyk : ∀ g w u, VR g w u yv → u = k) (kk : Der P I N ops seqMd Q [] c (env.put d (bif ok then .tu [v, .sc (.bool false)] else v)) σ)
    (hx : env.val x = .sc (.map (some b)) := by rfl) (hy : env.val y = yv := by rfl) (ht : ty P t = some T := by rfl) (hs : T.sh = .mp kt et := by rfl) (he : ty P et = some E := by rfl) (hv : ZeroV E v := by first | exact Go.Dp.ZeroV.ag rfl rfl | exact Go.Dp.ZeroV.sc rfl) (hp : Pick (.mp b kvs) σ l := by ((repeat (first | exact Go.Dp.Pick.here _ | apply Go.Dp.Pick.there)); (first | done | fail))) : At P I N ops seqMd Q [] i c ⟨d, .lookup t x y ok, tt, ps, af, gd⟩ env σ :=
  at_rds (rd_lookup0 hx (fun g w u h => hyk g w u (hy ▸ h)) ht hs he hL hK hk hn hv.vr) hp kk
theorem s_mapNewK {t kt et : TypeId} {x y z : Operand} {T : Ty} {K : Value → Prop} {b : Nat} {kvs : List (Value × AV)} {k : Value} {yv v : AV} (hL : KeyL P kt K) (hK : ∀ p, p ∈ kvs → K p.1) (hk : K k) (hn : ∀ p, p ∈ kvs → p.1 ≠ k) (hyk : ∀ g w u, VR g w u yv → u = k) (kk : Der P I N ops md Q H c (env.put d .un) (.mp b (kvs ++ [(k, v)]) :: σ1))
    (hx : env.val x = .sc (.map (some b)) := by rfl) (hy : env.val y = yv := by rfl) (hz : env.val z = v := by first | exact (rfl : _ = Go.Dp.AV.ag _) | exact (rfl : _ = Go.Dp.AV.sc _) | rfl) (ht : ty P t = some T := by rfl) (hs : T.sh = .mp kt et := by rfl) (hp : Pick (.mp b kvs) σ σ1 := by ((repeat (first | exact Go.Dp.Pick.here _ | apply Go.Dp.Pick.there)); (first | done | fail)))
    (hko : keepOk md i σ1 H := by exact trivial) (hm : md.okE i = true := by rfl) : At P I N ops md Q H i c ⟨d, .mapUpdate t x y z, tt, ps, af, gd⟩ env σ :=
  at_ef (ef_mapNew hx (fun g w u h => hyk g w u (hy ▸ h)) hz ht hs hL hK hk hn) (.cons _ _ _ _ _ hp (.nil _)) hko hm (fun x τ' hx => by
    obtain ⟨rfl, rfl⟩ := hx
    exact kk) (fun c τ' h => h.elim)
end
end Go.Dp
/- Deep values: a slice of which another proof knows that it is new. Conditions: none. -/
namespace Go.Dp
open Go.RowKit
set_option linter.unusedVariables false
/-- The cells of a slice, by number of block and place. -/
def cellsOf (v : Value) (n : Nat) (b o : Nat) : Prop := v.ownBlock = some b ∧ o < n
/-- A call that is known by another proof, leaves old memory, and gives (behind a wrapping) a new slice. -/
theorem own_slice {w w' : World} {e es : Nat} {v : Value} {xs : List Value} {rs : List AV} (h : w'.ownsRow w.heap.size e es v rs.length xs) (hlen : xs.length = rs.length * es)
    (hrow : ∀ (g : Gh), RowR g w' xs es rs) : (∀ b o, cellsOf v xs.length b o → w.heap.size ≤ b ∧ (w'.cell? ⟨b, o, none⟩).isSome = true) ∧ ∀ g', (∀ b o, cellsOf v xs.length b o → g'.pr b o) → VR g' w' v (.sl es rs) := by
  refine ⟨fun b o ⟨h1, h2⟩ => ?_, fun g' hg => ?_⟩
  · obtain ⟨cap, rfl, h3, h4, h5⟩ := own_cells h h1
    have := h5 o h2
    rw [Nat.zero_add] at this
    exact ⟨(h.lt b h1).1, by rw [this, List.getElem?_eq_getElem h2]; rfl⟩
  · cases hb : v.ownBlock with
    | none =>
      rcases h.2 with ⟨rfl, hn⟩ | ⟨b, cap, cur, rfl, _⟩
      · have : rs = [] := List.eq_nil_of_length_eq_zero hn
        subst this
        exact .nl es none 0 (Nat.zero_le _)
      · cases hb
    | some b =>
      obtain ⟨cap, rfl, h3, h4, h5⟩ := own_cells h hb
      exact VR.of_row (hrow g') h3 h4 fun j hj => ⟨h5 j hj, by rw [Nat.zero_add]; exact hg b j ⟨hb, hj⟩⟩
/-- Rows of values as they stand. -/
theorem row_sc (g : Gh) (w : World) (es : Nat) : ∀ (l : List (List Value)), (∀ c, c ∈ l → c.length = es ∧ ∀ v, v ∈ c → v.oneCell' = true) → RowR g w l.flatten es (l.map fun c => AV.ag (c.map .sc))
  | [], _ => RowR.nil g w es
  | c :: l, h => by
    obtain ⟨h1, h2⟩ := h c (List.mem_cons_self ..)
    have hone : RowR g w c es [AV.ag (c.map .sc)] := by
      refine ⟨by simp [h1], fun i x j y hx hy => ?_, fun x hx => ?_⟩
      · cases i with
        | zero =>
          simp only [List.getElem?_cons_zero, Option.some.injEq] at hx
          subst hx
          rw [AV.cells, List.getElem?_map] at hy
          cases hv : c[j]? with
          | none => rw [hv] at hy; cases hy
          | some v =>
            rw [hv] at hy
            cases hy
            exact ⟨v, by simpa using hv, .sc v⟩
        | succ i => simp at hx
      · rw [List.mem_singleton] at hx
        subst hx
        refine ⟨by rw [AV.cells, List.length_map]; exact h1, fun y hy => ?_⟩
        rw [AV.cells] at hy
        obtain ⟨v, hv, rfl⟩ := List.mem_map.1 hy
        exact h2 v hv
    have := hone.append (row_sc g w es l fun x hx => h x (List.mem_cons_of_mem _ hx))
    simpa using this
end Go.Dp
/- Deep values: bytes: texts as slices and back; cells of a slice that is written in place. Conditions: none. -/
namespace Go.Dp
open Go.RowKit
set_option linter.unusedVariables false
set_option linter.unusedSimpArgs false
section
variable {P : Program} (w : World)
end
section
variable {P : Program} [Tys P] {I : World → Prop} {N : Nat} {ops : Array Oper} {md : Md} {Q : Exit → Env → List Rs → Prop} {H : List (Nat × Option Rs)} {i : Nat} {c : List Nat} {env : Env} {σ σ1 : List Rs} {d : Option Tmp} {tt : TypeId} {ps : String} {af : Array Edge} {gd : Option (Nat × Bool)}
/-- A piece of a text. -/
theorem s_cut {t : TypeId} {x lo hi : Operand} {T : Ty} {s : ByteArray} {a b : Int} (l h : Nat) (kk : Der P I N ops md Q H c (env.put d (.sc (.string (s.extract l h)))) σ) (hx : env.val x = .sc (.string s) := by rfl) (hlo : env.val lo = .sc (.int .i64 a) := by rfl) (hhi : env.val hi = .sc (.int .i64 b) := by rfl)
    (ha : a = (l : Int) := by omega) (hb : b = (h : Int) := by omega) (h1 : l ≤ h := by omega) (h2 : h ≤ s.size := by omega) (ht : ty P t = some T := by rfl) (hsl : T.sh = .str := by rfl) (hm : md.okR i = true := by rfl) : At P I N ops md Q H i c ⟨d, .slice t x (some lo) (some hi) none, tt, ps, af, gd⟩ env σ := by
  subst ha; subst hb
  exact at_rd (rd_cut (lo := some lo) (hi := some hi) hx ht hsl hlo hhi h1 h2) hm kk
end
end Go.Dp
/- Deep values: what a function comes to, entered from a world. Conditions: none. -/
namespace Go.Dp
open Go.RowKit
set_option linter.unusedVariables false
set_option linter.unusedSimpArgs false
/-- What stands ahead, within a loop, within a block, and in the second way. -/
def fstC : Code → Code
  | .seq x _ => x
  | c => c
/-- Cells of a world that are to stay. -/
def stay (S : Nat → Nat → Prop) : Gh := ⟨S, fun _ => 0, fun _ => .slice none 0 0, 0⟩
theorem rel_stay {w : World} {S : Nat → Nat → Prop} (hS : ∀ b o, S b o → (w.cell? ⟨b, o, none⟩).isSome = true) : Rel w (stay S) [] w :=
  ⟨(fun r hr => by cases hr), List.Pairwise.nil, hS, fun k _ => ⟨rfl, rfl⟩, Below.refl _ _⟩
theorem Sim.enter {P : Program} {I : World → Prop} {f : FuncId} {args : List AV} {R : Out → List Rs → Prop} (h : Sim P I f args [] R) {w : World} (hI : I w) {vs : List Value} (S : Nat → Nat → Prop) (hS : ∀ b o, S b o → (w.cell? ⟨b, o, none⟩).isSome = true)
    (hv : VRs (stay S) w vs args) : Calls P f vs.toArray w fun e w' => Below w.heap.size w w' ∧ ∃ g' σ' o, o.is g' w' e ∧ R o σ' := by
  refine (h.2 w (stay S) w [] vs hI (rel_stay hS) hv).mono ?_
  rintro e w' ⟨g', σ', o, h1, h2, h3, h4⟩
  exact ⟨h2.below, g', σ', o, h3, h4⟩
/-- A variable of one cell is written, as the model has it. -/
theorem Rel.cell {w0 w : World} {g : Gh} {σ : List Rs} {b : Nat} {x y : AV} {t : TypeId} {v : Value} (h : Rel w0 g (.box b [x] t :: σ) w) (hv : VR g w v y) (h1 : y.one = true) :
    Ext g w g (w.setCell ⟨b, 0, none⟩ v) ∧ Rel w0 g (.box b [y] t :: σ) (w.setCell ⟨b, 0, none⟩ v) := by
  obtain ⟨_, ⟨vs, fz, k2, kz, k3, _⟩, _⟩ := h.ok _ (List.mem_cons_self ..)
  have hl : vs.size = 1 := by have := k3.1; simpa using this
  rw [setCell_eq_setRow w b 0 vs t fz v k2]
  have e : (vs.setIfInBounds 0 v).toList = [v] := by
    obtain ⟨l⟩ := vs
    match l, hl with
    | [u], _ => rfl
  exact Rel.set (vs' := vs.setIfInBounds 0 v) h (by rw [e]; exact VRs.cons hv (VRs.nil _ _)) rfl (fun z hz => by rw [List.mem_singleton] at hz; subst hz; exact .inl h1)
theorem Rel.cell_at {w0 w : World} {g : Gh} {σ : List Rs} {b : Nat} {v : Value} {t : TypeId} (h : Rel w0 g σ w) (hm : Rs.box b [.sc v] t ∈ σ) : w.cell? ⟨b, 0, none⟩ = some v ∧ w.frozen? ⟨b, 0, none⟩ = false := by
  obtain ⟨_, ⟨vs, fz, k2, kz, k3, _⟩, _⟩ := h.ok _ hm
  have hl : vs.size = 1 := by have := k3.1; simpa using this
  obtain ⟨u, h1, h2⟩ := k3.get (i := 0) (x := .sc v) rfl
  rw [h2.bool] at h1
  refine ⟨by rw [cell_of_row w b 0 vs t fz k2]; simpa using h1, ?_⟩
  have := kz 0 (by omega)
  obtain ⟨a, c⟩ := fz
  simp only [World.frozen?, k2, Bool.and_eq_false_iff, decide_eq_false_iff_not]
  simp only at this
  omega
section
variable {P : Program} [Tys P] {I : World → Prop} {N : Nat} {ops : Array Oper} {md : Md} {Q : Exit → Env → List Rs → Prop} {H : List (Nat × Option Rs)} {i : Nat} {c : List Nat} {env : Env} {σ σ1 : List Rs} {d : Option Tmp} {tt : TypeId} {ps : String} {af : Array Edge} {gd : Option (Nat × Bool)}
end
end Go.Dp
/- Deep values: short forms of what closes a walk. Conditions: none. -/
namespace Go.Dp
open Go.RowKit
set_option linter.unusedVariables false
set_option linter.unusedSimpArgs false
/-- The resources asked are among those that lie. -/
theorem pks {τ σ dr : List Rs} (hp : Picks τ σ dr := by ((repeat (first | exact Go.Dp.Picks.nil _ | (apply Go.Dp.Picks.cons; focus ((repeat (first | exact Go.Dp.Pick.here _ | apply Go.Dp.Pick.there)); (first | done | fail))))); (first | done | fail))) : Picks τ σ dr := hp
/-- The environment has what is asked. -/
theorem els {env env' : Env} (h : ∀ x, x ∈ env' → env.get x.1 = x.2 := by (intro x hx; simp only [List.mem_cons, List.not_mem_nil, or_false] at hx; (repeat (rcases hx with rfl | hx; (focus rfl))); (try (subst hx; rfl)); (first | done | fail))) : EnvLe env env' := EnvLe.of_list h
/-- The results are what is said. -/
theorem rvs {P : Program} [Tys P] {env : Env} {σ : List Rs} {l : List ResultVar} {xs : List AV} (h : ResVs P env σ l xs := by ((repeat' (first | exact Go.Dp.ResVs.nil | apply Go.Dp.ResVs.cons | (apply Go.Dp.ResV.tmp; first | exact (rfl : _ = Go.Dp.AV.sc _) | exact (rfl : _ = Go.Dp.AV.ag _) | exact (rfl : _ = Go.Dp.AV.sl _ _) | exact (rfl : _ = Go.Dp.AV.os _ _ _) | exact (rfl : _ = Go.Dp.AV.fn _ _ _)) | (apply Go.Dp.ResV.cells; rfl; apply Go.Dp.Pick.mem; (repeat (first | exact Go.Dp.Pick.here _ | apply Go.Dp.Pick.there)); rfl; rfl; rfl; (first | rfl | simp only [Go.Dp.ones, List.all_cons, List.all_nil, Bool.and_true, Go.Dp.one_int, Go.Dp.one_bool, Go.Dp.one_str, Go.Dp.one_ptr, Go.Dp.one_slice, Go.Dp.one_sl, Go.Dp.one_os, *])) | (apply Go.Dp.ResV.cell; rfl; apply Go.Dp.Pick.mem; (repeat (first | exact Go.Dp.Pick.here _ | apply Go.Dp.Pick.there)); rfl; rfl; rfl))); (first | done | fail))) : ResVs P env σ l xs := h
section
variable {P : Program} [Tys P] {I : World → Prop} {N : Nat} {ops : Array Oper} {md : Md} {Q : Exit → Env → List Rs → Prop} {H : List (Nat × Option Rs)} {i : Nat} {c : List Nat} {env : Env} {σ : List Rs} {d : Option Tmp} {tt : TypeId} {ps : String} {af : Array Edge} {gd : Option (Nat × Bool)}
omit [Tys P] in
/-- A call of a function value that changes nothing. -/
theorem rd_callv {f : FuncId} {x : Operand} {as : Array Operand} {ts : Array TypeId} {args fs cs : List AV} {r : Option Rs} {v : AV} (hx : env.val x = .fn (.func f) fs cs) (hs : Sim P I f args r.toList (fun o τ' => o = .ret v ∧ τ' = r.toList)) (ha : fs ++ as.toList.map env.val ++ cs = args) :
    RdS P I ⟨d, .call ⟨.value x, as, ts⟩, tt, ps, af, gd⟩ env r v := by
  subst ha
  refine rd_enter hs (fun g ac w hE => ?_)
  have e1 := hE x (by simp [Op.operands, Call.operands])
  rw [hx] at e1
  generalize hav : ac.eval x = av at e1
  cases e1 with
  | fn _ first captured _ _ hf hc h1 h2 =>
    refine ⟨first.toList ++ (as.map ac.eval).toList ++ captured.toList, ?_, (VRs.append ⟨by simpa using hf, fun i v y hv hy => h1 i v y (by simpa using hv) hy⟩ (VRs.args as (fun x hx => hE x (by simp only [Op.operands, Call.operands, Array.mem_append]; exact .inr hx)))).append ⟨by simpa using hc, fun i v y hv hy => h2 i v y (by simpa using hv) hy⟩⟩
    simp [execOp, resolve, hav, Deferred.ofValue, invoke, run_enter hs.1]
omit [Tys P] in
theorem s_callv0 {f : FuncId} {x : Operand} {as : Array Operand} {ts : Array TypeId} {args fs cs : List AV} {v : AV} (hs : Sim P I f args [] (fun o τ' => o = .ret v ∧ τ' = [])) (k : Der P I N ops md Q H c (env.put d v) σ) (hx : env.val x = .fn (.func f) fs cs := by rfl) (ha : fs ++ as.toList.map env.val ++ cs = args := by first | rfl | simp) (hm : md.okR i = true := by rfl) :
    At P I N ops md Q H i c ⟨d, .call ⟨.value x, as, ts⟩, tt, ps, af, gd⟩ env σ := at_rd (rd_callv (r := none) hx hs ha) hm k
end
end Go.Dp
