/- Contracts of other proofs, taken over: Tokens, Kind, Itoa, Join. Conditions: none. -/
import Derived.Test.YtjcocblohiglbaaGreatDoorC2
import Derived.Test.YtjcocblohiglbaaGreatDoorA4
import Derived.Test.YtjcocblohiglbaaGreatDoorMDp
import Derived.Test.YtjcocblohiglbaaGreatDoorC4
import Derived.Test.YtjcocblohiglbaaGreatDoorC5
import Derived.Test.YtjcocblohiglbaaGreatDoorC1
namespace Go.Proofs.YtjcocblohiglbaaGreatDoor
open Go.Dp Go.RowKit
set_option linter.unusedVariables false
set_option linter.unusedSimpArgs false
def toTk (t : Lex.Tok) : Tk := ⟨t.kind, t.n, ⟨t.s.toArray⟩, t.b, t.e⟩
/-- What Tokens returns. -/
def lxP (tx : ByteArray) : List Tk × Int × Int := ((Lex.tokensL tx.data.toList).1.map toTk, ((Lex.tokensL tx.data.toList).2.1 : Nat), ((Lex.tokensL tx.data.toList).2.2 : Nat))
theorem flat_len : ∀ (l : List Lex.Tok), (l.map tokCell).flatten.length = l.length * 5
  | [] => rfl
  | t :: l => by rw [List.map_cons, List.flatten_cons, List.length_append, flat_len l, List.length_cons]; simp only [tokCell, List.length_cons, List.length_nil]; omega
theorem sim_Tokens (tx : ByteArray) (hs : tx.size ≤ 140737488351232) : Sim Tryz.prog GL 54 [str tx] [] (fun o τ => o = .ret (.tu [.sl 5 ((lxP tx).1.map etok), i64 (lxP tx).2.1, i64 (lxP tx).2.2]) ∧ τ = []) := by
  refine sim_old ⟨_, _, Tryz.func54, rfl, rfl⟩ fun w0 g w vs hI hB hv => ?_
  have e := VRs.scalars (us := [.string tx]) hv
  subst e
  refine (tokens_any tx w hs (hI.below hB)).mono ?_
  rintro e w' ⟨v, rfl, hown, hbel⟩
  unfold lxP
  generalize Lex.tokensL tx.data.toList = L at hown ⊢
  have hrs : (L.1.map tokCell).map (fun c => AV.ag (c.map .sc)) = (L.1.map toTk).map etok := by
    rw [List.map_map, List.map_map]
    rfl
  have hfl : tokCells L.1 = (L.1.map tokCell).flatten := by rw [tokCells, List.flatMap_def]
  have hlen : ((L.1.map toTk).map etok).length = L.1.length := by simp
  rw [← hlen] at hown
  obtain ⟨h1, h2⟩ := own_slice (rs := (L.1.map toTk).map etok) hown (by rw [hlen, hfl]; exact flat_len L.1) (fun g => by
    rw [hfl, ← hrs]
    refine row_sc g w' 5 _ fun c hc => ?_
    obtain ⟨t, _, rfl⟩ := List.mem_map.1 hc
    refine ⟨rfl, fun v hv => ?_⟩
    simp only [tokCell, List.mem_cons, List.not_mem_nil, or_false] at hv
    rcases hv with rfl | rfl | rfl | rfl | rfl <;> rfl)
  refine ⟨hbel, cellsOf v _, .ret (.tu [.sl 5 ((L.1.map toTk).map etok), i64 (L.2.1 : Nat), i64 (L.2.2 : Nat)]), h1, fun g' hx hp => ?_, rfl, rfl⟩
  exact (VRs.cons (h2 g' hp) (VRs.cons (.sc _) (VRs.cons (.sc _) (VRs.nil _ _)))).tup
theorem itoaOk : ItoaOk GL := fun n h0 h1 => sim_olds ⟨_, _, Tryz.func98, rfl, rfl⟩ fun w0 g w vs hI hB hv => by
  have e := VRs.scalars (us := [.int .i64 n]) hv
  subst e
  exact itoa_any n (by omega) h1 w (hI.below hB)
/-- A slice of texts, in memory. -/
theorem vr_texts {g : Gh} {w : World} {v : Value} {L : List ByteArray} (h : VR g w v (.sl 1 (L.map fun s => str s))) : (∃ a c, v = .slice a 0 c ∧ L = []) ∨ ∃ b o c, v = .slice (some ⟨b, o, none⟩) L.length c ∧ L.length ≤ c ∧ ∀ (j : Nat) x, L[j]? = some x → w.cell? ⟨b, o + j, none⟩ = some (.string x) := by
  have hml : (L.map fun s => str s).length = L.length := List.length_map ..
  rcases h.row with ⟨⟨a0, c0, rfl, _⟩, hn⟩ | ⟨b, o, cap, xs, rfl, hc, hm, hrow, hcell⟩
  · refine .inl ⟨a0, c0, rfl, ?_⟩
    have := congrArg List.length hn
    rw [hml] at this
    exact List.eq_nil_of_length_eq_zero this
  · rw [hml] at hc ⊢
    refine .inr ⟨b, o, cap, rfl, hc, fun j p hj => ?_⟩
    have hg : (L.map fun s => str s)[j]? = some (str p) := by rw [List.getElem?_map, hj]; rfl
    obtain ⟨v, h1, h2⟩ := hrow.val j (str p) 0 (.sc (.string p)) hg rfl
    have hlt := (List.getElem?_eq_some_iff.1 h1).1
    have := (hcell _ hlt).1
    rw [h1, h2.bool, Nat.mul_one, Nat.add_zero] at this
    exact this
theorem join_eq (sep : ByteArray) : ∀ (l : List ByteArray), (⟨(Lib.join (l.map (·.data.toList)) sep.data.toList).toArray⟩ : ByteArray) = joinB sep l
  | [] => rfl
  | [a] => by rw [List.map_cons, List.map_nil, Lib.join_one, joinB]
  | a :: b :: l => by
    have ih := join_eq sep (b :: l)
    rw [joinB, ← ih, List.map_cons, Lib.join_cons, List.map_cons, Lib.join_cons, Lib.joinTail, List.map_cons, List.flatten_cons, Lib.joinTail]
    apply ByteArray.ext
    simp [ByteArray.data_append]
theorem join_size_le (sep : ByteArray) : ∀ (l : List ByteArray) (n : Nat), sep.size ≤ 10 → n + (joinB sep l).size ≤ 10 * l.length + l.foldl (fun n s => n + s.size + 1) n
  | [], n, _ => by rw [joinB]; show n + 0 ≤ 10 * 0 + n; omega
  | [a], n, _ => by simp [joinB]; omega
  | a :: b :: l, n, h => by
    have := join_size_le sep (b :: l) (n + a.size + 1) h
    rw [List.foldl_cons, joinB, ByteArray.size_append, ByteArray.size_append]
    simp only [List.length_cons] at this ⊢
    omega
theorem joinOk : JoinOk GL := fun l sep h1 h2 h3 => sim_olds ⟨_, _, Tryz.func121, rfl, rfl⟩ fun w0 g w vs hI hB hv => by
  obtain ⟨u, v, rfl⟩ : ∃ u v, vs = [u, v] := by
    match vs, hv.1 with
    | [u, v], _ => exact ⟨u, v, rfl⟩
  have e2 : v = .string sep := (hv.2 1 v _ rfl rfl).bool
  subst e2
  rcases vr_texts (hv.2 0 u _ rfl rfl) with ⟨a, c, rfl, rfl⟩ | ⟨b, o, c, rfl, hc, hcell⟩
  · refine (Tryz.strings_Join_none a c sep w).mono ?_
    rintro e w' ⟨rfl, rfl⟩
    exact ⟨rfl, Below.refl _ _⟩
  · have hz := join_size_le sep l 0 h2
    have hjs : (Lib.join (l.map (·.data.toList)) sep.data.toList).length = (joinB sep l).size := by rw [← join_eq]; simp [ByteArray.size]
    cases l with
    | nil =>
      refine (Tryz.strings_Join_none _ c sep w).mono ?_
      rintro e w' ⟨rfl, rfl⟩
      exact ⟨rfl, Below.refl _ _⟩
    | cons a r =>
      have hb : b < w.heap.size := by
        have := hcell 0 a rfl
        exact World.block_lt_of_cell? _ _ this
      refine (Tryz.strings_Join b o c (a :: r) sep w hcell hb (by omega) hc (by rw [hjs]; omega)).mono ?_
      rintro e w' ⟨rfl, hd⟩
      exact ⟨by rw [join_eq], hd⟩
/-- The kind of the token that a text is. -/
def kdP (s : ByteArray) : Int := match lxP s with
  | ([t], _, e) => if e ≠ 0 ∨ ¬ (t.e : Int) - t.b = s.size then 0 else t.kind
  | _ => 0
theorem toks_at {s : ByteArray} {t : Tk} (h : t ∈ (lxP s).1) : (t.b : Int) ≤ 200000 ∧ (t.e : Int) ≤ 200000 := by
  unfold lxP at h
  obtain ⟨u, hu, rfl⟩ := List.mem_map.1 h
  have key : ∀ {l : Lex.Bytes} {p : Nat} {ts : List Lex.Tok} {cs : List (Nat × Nat)} {l' : Lex.Bytes} {p' : Nat}, Lex.Runs l p ts cs l' p' → ∀ u ∈ ts, u.b ≤ p + l.length ∧ u.e ≤ p + l.length := by
    intro l p ts cs l' p' hr
    induction hr with
    | nil l p => intro u hu; cases hu
    | skip h r ih =>
      rename_i l p ts cs l' p'
      intro u hu
      have := ih u hu
      have := Lex.step_skip_len h
      simp only [List.length_drop] at *
      omega
    | comm h r ih =>
      rename_i l p ts cs l' p' k
      intro u hu
      have := ih u hu
      have := Lex.step_comm h
      simp only [List.length_drop] at *
      omega
    | tok h r ih =>
      rename_i l p ts cs l' p' kd n s k
      intro u hu
      have hk := Lex.step_tok h
      rcases List.mem_cons.1 hu with rfl | hu
      · dsimp only; omega
      · have := ih u hu
        simp only [List.length_drop] at this
        omega
  unfold Lex.tokensL at hu
  split at hu
  · cases hu
  · rename_i hl
    split at hu
    · cases hu
    · rename_i ts cs hc
      split at hu
      · cases hu
      · have := key (Lex.cut_done hc) u hu
        simp only [toTk]
        omega
set_option maxRecDepth 20000 in set_option maxHeartbeats 4000000 in
theorem kindOk : KindOk GL kdP := fun s hs => by
  have hT := sim_Tokens s (by omega)
  have hat := fun t ht => toks_at (s := s) (t := t) ht
  unfold kdP
  generalize lxP s = L at hT hat
  obtain ⟨l, p, e⟩ := L
  dsimp only at hT hat ⊢
  have hll : (l.map etok).length = l.length := List.length_map ..
  by_cases he : e = 0
  · subst he
    match l, hT, hat, hll with
    | [], hT, hat, hll =>
      refine sim_body Tryz.func69 rfl rfl rfl ?_
      repeat (any_goals (first | refine s_at ?_ | refine s_skip ?_ | refine s_off ?_ | refine s_offn ?_ | refine s_move ?_ | refine s_assign ?_ | refine s_load ?_ | refine s_loade ?_ | refine s_loadd ?_ | refine s_pick1 ?_ | refine s_pick0 ?_ | refine s_pure ?_ | refine s_nil ?_ | refine aw_seq ?_ | refine aw_seqr ?_ | refine aw_block ?_ | refine aw_true ?_ | refine aw_false ?_ | refine s_alloc (fun _ => ?_) | refine s_allocd (fun _ => ?_) | refine s_box (fun _ => ?_) | refine s_box1 (fun _ => ?_) | refine s_store' ?_ | refine s_call0 hT ?_ | refine s_draw [] ?_ | (refine s_cmp (fun h => ?_) (fun h => ?_) <;> try (exfalso; first | omega | (simp at h; done)))))
      refine aw_ret ?_; (repeat (first | refine then_ret ?_ | refine inb_ret ?_))
      exact post_of ⟨rfl, rfl⟩ rvs pks
    | a :: b :: r, hT, hat, hll =>
      have hl2 : ((a :: b :: r).map etok).length = r.length + 2 := by simp
      clear hll
      refine sim_body Tryz.func69 rfl rfl rfl ?_
      repeat (any_goals (first | refine s_at ?_ | refine s_skip ?_ | refine s_off ?_ | refine s_offn ?_ | refine s_move ?_ | refine s_assign ?_ | refine s_load ?_ | refine s_loade ?_ | refine s_loadd ?_ | refine s_pick1 ?_ | refine s_pick0 ?_ | refine s_pure ?_ | refine s_nil ?_ | refine aw_seq ?_ | refine aw_seqr ?_ | refine aw_block ?_ | refine aw_true ?_ | refine aw_false ?_ | refine s_alloc (fun _ => ?_) | refine s_allocd (fun _ => ?_) | refine s_box (fun _ => ?_) | refine s_box1 (fun _ => ?_) | refine s_store' ?_ | refine s_call0 hT ?_ | refine s_draw [] ?_ | (refine s_cmp (fun h => ?_) (fun h => ?_) <;> try (exfalso; first | exact h rfl | omega))))
      refine aw_ret ?_; (repeat (first | refine then_ret ?_ | refine inb_ret ?_))
      exact post_of ⟨rfl, rfl⟩ rvs pks
    | [t], hT, hat, hll =>
      have g0 : ([t].map etok)[0]? = some (etok t) := rfl
      have h0 := hat t (List.mem_cons_self ..)
      dsimp only
      by_cases hz : (t.e : Int) - t.b = s.size
      · rw [if_neg (by simp [hz])]
        refine sim_body Tryz.func69 rfl rfl rfl ?_
        repeat (any_goals (first | refine s_at ?_ | refine s_skip ?_ | refine s_off ?_ | refine s_offn ?_ | refine s_move ?_ | refine s_assign ?_ | refine s_load ?_ | refine s_loade ?_ | refine s_loadd ?_ | refine s_pick1 ?_ | refine s_pick0 ?_ | refine s_pure ?_ | refine s_nil ?_ | refine aw_seq ?_ | refine aw_seqr ?_ | refine aw_block ?_ | refine aw_true ?_ | refine aw_false ?_ | refine s_alloc (fun _ => ?_) | refine s_allocd (fun _ => ?_) | refine s_box (fun _ => ?_) | refine s_box1 (fun _ => ?_) | refine s_store' ?_ | refine s_call0 hT ?_ | refine s_draw [] ?_ | (refine s_cmp (fun h => ?_) (fun h => ?_) <;> try (exfalso; first | omega | exact h rfl)) | refine s_elem 0 g0 ?_ | refine s_sub ?_))
        refine aw_ret ?_; (repeat (first | refine then_ret ?_ | refine inb_ret ?_))
        exact post_of ⟨rfl, rfl⟩ rvs pks
      · rw [if_pos (.inr hz)]
        refine sim_body Tryz.func69 rfl rfl rfl ?_
        repeat (any_goals (first | refine s_at ?_ | refine s_skip ?_ | refine s_off ?_ | refine s_offn ?_ | refine s_move ?_ | refine s_assign ?_ | refine s_load ?_ | refine s_loade ?_ | refine s_loadd ?_ | refine s_pick1 ?_ | refine s_pick0 ?_ | refine s_pure ?_ | refine s_nil ?_ | refine aw_seq ?_ | refine aw_seqr ?_ | refine aw_block ?_ | refine aw_true ?_ | refine aw_false ?_ | refine s_alloc (fun _ => ?_) | refine s_allocd (fun _ => ?_) | refine s_box (fun _ => ?_) | refine s_box1 (fun _ => ?_) | refine s_store' ?_ | refine s_call0 hT ?_ | refine s_draw [] ?_ | (refine s_cmp (fun h => ?_) (fun h => ?_) <;> try (exfalso; first | omega | exact h rfl)) | refine s_elem 0 g0 ?_ | refine s_sub ?_))
        refine aw_ret ?_; (repeat (first | refine then_ret ?_ | refine inb_ret ?_))
        exact post_of ⟨rfl, rfl⟩ rvs pks
  · have hk : (match (l, p, e) with
      | ([t], _, e) => if e ≠ 0 ∨ ¬ (t.e : Int) - t.b = s.size then 0 else t.kind
      | _ => 0) = 0 := by
      split
      · rename_i h
        cases h
        rw [if_pos (.inl he)]
      · rfl
    rw [hk]
    refine sim_body Tryz.func69 rfl rfl rfl ?_
    repeat (any_goals (first | refine s_at ?_ | refine s_skip ?_ | refine s_off ?_ | refine s_offn ?_ | refine s_move ?_ | refine s_assign ?_ | refine s_load ?_ | refine s_loade ?_ | refine s_loadd ?_ | refine s_pick1 ?_ | refine s_pick0 ?_ | refine s_pure ?_ | refine s_nil ?_ | refine aw_seq ?_ | refine aw_seqr ?_ | refine aw_block ?_ | refine aw_true ?_ | refine aw_false ?_ | refine s_alloc (fun _ => ?_) | refine s_allocd (fun _ => ?_) | refine s_box (fun _ => ?_) | refine s_box1 (fun _ => ?_) | refine s_store' ?_ | refine s_call0 hT ?_ | refine s_draw [] ?_ | (refine s_cmp (fun h => ?_) (fun h => ?_) <;> try (exfalso; first | omega | exact h he))))
    refine aw_ret ?_; (repeat (first | refine then_ret ?_ | refine inb_ret ?_))
    exact post_of ⟨rfl, rfl⟩ rvs pks
end Go.Proofs.YtjcocblohiglbaaGreatDoor
/- What Behaviour and Expr give, for all texts and operations in bounds. Conditions: none. -/
namespace Go.Proofs.YtjcocblohiglbaaGreatDoor
open Go.Dp
set_option linter.unusedVariables false
set_option linter.unusedSimpArgs false
/-- Operations in bounds. -/
def OpsOk (ops : List Mx) : Prop := ops.length ≤ 300 ∧ ∀ m, m ∈ ops → m.parts.length ≤ 20 ∧ ∀ s, s ∈ m.parts → s.size ≤ 100
theorem OpsOk.small {ops : List Mx} (h : OpsOk ops) : ∀ m, m ∈ ops → SmallM m := fun m hm => ⟨by have := (h.2 m hm).1; omega, fun s hs => by have := (h.2 m hm).2 s hs; omega⟩
theorem foldl_sizes : ∀ (l : List ByteArray) (n : Nat), (∀ s, s ∈ l → s.size ≤ 100) → l.foldl (fun n s => n + s.size + 1) n ≤ n + 101 * l.length
  | [], n, _ => by simp
  | a :: l, n, h => by
    have h1 := h a (List.mem_cons_self ..)
    have := foldl_sizes l (n + a.size + 1) (fun s hs => h s (List.mem_cons_of_mem _ hs))
    rw [List.foldl_cons, List.length_cons]
    omega
theorem right_parts {kd : ByteArray → Int} {m : Mx} (h : rightM kd m = true) : m.parts ≠ [] ∧ 1 ≤ m.prio ∧ m.prio ≤ 9 ∧ 0 ≤ m.side ∧ m.side ≤ 2 := by
  simp only [rightM, Bool.and_eq_true, decide_eq_true_eq] at h
  obtain ⟨⟨⟨⟨⟨⟨⟨h1, h2⟩, h3⟩, h4⟩, h5⟩, h6⟩, h7⟩, h8⟩ := h
  exact ⟨fun e => by rw [e] at h1; simp at h1, h3, h4, h5, h6⟩
theorem tab_mem {left : Bool} {ops : List Mx} {q : ByteArray × Mx} (h : q ∈ tabM left ops) : q.2 ∈ ops := by
  unfold tabM at h
  obtain ⟨m, hm, rfl⟩ := List.mem_map.1 h
  exact (List.mem_filter.1 hm).1
theorem apart_right {kd : ByteArray → Int} {ops : List Mx} (h : apartM kd ops = true) : ∀ m, m ∈ ops → rightM kd m = true := by
  rw [apartM, Bool.and_eq_true] at h
  exact fun m hm => ((apt_of h.2).1 m hm).1
theorem ops_ok {kd : ByteArray → Int} {ops : List Mx} (hO : OpsOk ops) (h : apartM kd ops = true) (m : Mx) (hm : m ∈ ops) : MxOk m := by
  have hr := right_parts (apart_right h m hm)
  have h1 := hO.2 m hm
  exact ⟨hr.1, by omega, by omega, by have := foldl_sizes m.parts 0 h1.2; omega⟩
theorem lx_len (tx : ByteArray) : (lxP tx).1.length ≤ 20000 := by
  unfold lxP Lex.tokensL
  split
  · simp
  · split
    · simp
    · split
      · simp
      · dsimp only
        rw [List.length_map]
        omega
theorem lx_nums (tx : ByteArray) : Nums (lxP tx).1 := by
  have key : ∀ {l : Lex.Bytes} {p : Nat} {ts : List Lex.Tok} {cs : List (Nat × Nat)} {l' : Lex.Bytes} {p' : Nat}, Lex.Runs l p ts cs l' p' → ∀ u ∈ ts, 0 ≤ u.n ∧ u.n ≤ 2147483647 := by
    intro l p ts cs l' p' hr
    induction hr with
    | nil l p => intro u hu; cases hu
    | skip h r ih => exact ih
    | comm h r ih => exact ih
    | tok h r ih =>
      rename_i l p ts cs l' p' kd n s k
      intro u hu
      rcases List.mem_cons.1 hu with rfl | hu
      · dsimp only
        match l, h with
        | [], h => cases h
        | c :: l, h =>
          unfold Lex.step at h
          dsimp only at h
          split at h
          · cases h
          split at h
          · unfold Lex.wordStep at h
            dsimp only at h
            split at h
            · cases h
            · injection h with h1 h2 h3 h4; subst h2; decide
          split at h
          · unfold Lex.numStep at h
            dsimp only at h
            split at h
            · cases h
            · rename_i hle
              split at h
              · cases h
              · injection h with h1 h2 h3 h4
                subst h2
                omega
          split at h
          · unfold Lex.symStep at h
            dsimp only at h
            split at h
            · cases h
            · injection h with h1 h2 h3 h4; subst h2; decide
          split at h
          · unfold Lex.markStep at h
            split at h
            · split at h <;> cases h
            · split at h
              · injection h with h1 h2 h3 h4; subst h2; decide
              · cases h
          · cases h
      · exact ih u hu
  intro t ht _
  unfold lxP at ht
  obtain ⟨u, hu, rfl⟩ := List.mem_map.1 ht
  have : 0 ≤ u.n ∧ u.n ≤ 2147483647 := by
    unfold Lex.tokensL at hu
    split at hu
    · cases hu
    · split at hu
      · cases hu
      · rename_i ts cs hc
        split at hu
        · cases hu
        · exact key (Lex.cut_done hc) u hu
  show 0 ≤ u.n ∧ u.n ≤ 9223372036854775807
  omega
section
variable (tx : ByteArray) (ops : List Mx)
theorem sim_ExprG (hs : tx.size ≤ 140737488351232) (hO : OpsOk ops) : Sim Tryz.prog GL 11 [str tx, .sl 5 (ops.map emix)] [] (fun o τ => o = .ret (enR (givenP lxP pExpr kdP ops tx)) ∧ τ = []) :=
  sim_Expr GL tx ops _ (sim_given GL kdP kindOk ops (by have := hO.1; omega) hO.small lxP pExpr _ tx (fun hap => sim_read GL kdP kindOk ops (by have := hO.1; omega) hO.small (fun m hm => (right_parts (apart_right hap m hm)).1) pExpr _ tx lxP (sim_Tokens tx hs) (by have := lx_len tx; unfold Fit; omega) (lx_nums tx) itoaOk joinOk (fun q hq => ops_ok hO hap _ (tab_mem hq)) (fun q hq => ops_ok hO hap _ (tab_mem hq))
    (fun pr k => sim_expr GL pr tx _ k (by have := lx_len tx; unfold Fit; omega) 0 [] (Nat.zero_le _)) (fun n q ex h => good_expr' (by have := lx_len tx; omega) h)))
theorem sim_BehaviourG (hs : tx.size ≤ 140737488351232) (hO : OpsOk ops) : Sim Tryz.prog GL 9 [str tx, .sl 5 (ops.map emix)] [] (fun o τ => o = .ret (enR (givenP lxP pBehaviour kdP ops tx)) ∧ τ = []) :=
  sim_Behaviour GL tx ops _ (sim_given GL kdP kindOk ops (by have := hO.1; omega) hO.small lxP pBehaviour _ tx (fun hap => sim_read GL kdP kindOk ops (by have := hO.1; omega) hO.small (fun m hm => (right_parts (apart_right hap m hm)).1) pBehaviour _ tx lxP (sim_Tokens tx hs) (by have := lx_len tx; unfold Fit; omega) (lx_nums tx) itoaOk joinOk (fun q hq => ops_ok hO hap _ (tab_mem hq)) (fun q hq => ops_ok hO hap _ (tab_mem hq))
    (fun pr k => sim_behaviour GL pr tx _ k (by have := lx_len tx; unfold Fit; omega) (lx_nums tx) itoaOk 0 [] (Nat.zero_le _)) (fun n q ex h => good_behaviour (by have := lx_len tx; omega) h)))
end
/-- What is read has at most 60000 nodes. -/
theorem read_cnt (lx : ByteArray → List Tk × Int × Int) (rule : ByteArray → List Tk → Nat → List (Nat × Nat) → Res Nd) (kd : ByteArray → Int) (ops : List Mx) (tx : ByteArray) : cnt (givenP lx rule kd ops tx).n ≤ 60000 := by
  have hz : cnt zeroN ≤ 60000 := by decide
  unfold givenP readP
  repeat' (first | exact hz | split)
  all_goals (first | exact hz | (dsimp only; omega))
end Go.Proofs.YtjcocblohiglbaaGreatDoor
/- The chapter's examples, read by the plain reader. Conditions: none. -/
namespace Go.Proofs.YtjcocblohiglbaaGreatDoor
open Go.Dp
set_option linter.unusedVariables false
/-- The operations of the examples. -/
def tableM : List Mx := [⟨[⟨#[43]⟩], true, true, 5, 1⟩, ⟨[⟨#[42]⟩], true, true, 6, 1⟩, ⟨[⟨#[94]⟩], true, true, 7, 2⟩, ⟨[⟨#[60]⟩], true, true, 3, 0⟩, ⟨[⟨#[45]⟩], false, true, 6, 0⟩, ⟨[⟨#[37]⟩], true, false, 8, 0⟩, ⟨[⟨#[105, 102]⟩, ⟨#[116, 104, 101, 110]⟩, ⟨#[101, 108, 115, 101]⟩], false, true, 1, 0⟩]
def sane1 : List (ByteArray × Nd) := [(⟨#[97, 32, 43, 32, 98, 32, 42, 32, 99]⟩, (.mk 50 0 ⟨#[95, 43, 95]⟩ [(.mk 50 0 ⟨#[97]⟩ [] 0 0), (.mk 50 0 ⟨#[95, 42, 95]⟩ [(.mk 50 0 ⟨#[98]⟩ [] 0 0), (.mk 50 0 ⟨#[99]⟩ [] 0 0)] 0 0)] 0 0)), (⟨#[97, 32, 43, 32, 98, 32, 43, 32, 99]⟩, (.mk 50 0 ⟨#[95, 43, 95]⟩ [(.mk 50 0 ⟨#[95, 43, 95]⟩ [(.mk 50 0 ⟨#[97]⟩ [] 0 0), (.mk 50 0 ⟨#[98]⟩ [] 0 0)] 0 0), (.mk 50 0 ⟨#[99]⟩ [] 0 0)] 0 0)), (⟨#[97, 32, 94, 32, 98, 32, 94, 32, 99]⟩, (.mk 50 0 ⟨#[95, 94, 95]⟩ [(.mk 50 0 ⟨#[97]⟩ [] 0 0), (.mk 50 0 ⟨#[95, 94, 95]⟩ [(.mk 50 0 ⟨#[98]⟩ [] 0 0), (.mk 50 0 ⟨#[99]⟩ [] 0 0)] 0 0)] 0 0)), (⟨#[45, 32, 97, 32, 43, 32, 98]⟩, (.mk 50 0 ⟨#[95, 43, 95]⟩ [(.mk 50 0 ⟨#[45, 95]⟩ [(.mk 50 0 ⟨#[97]⟩ [] 0 0)] 0 0), (.mk 50 0 ⟨#[98]⟩ [] 0 0)] 0 0)), (⟨#[45, 32, 97, 32, 94, 32, 98]⟩, (.mk 50 0 ⟨#[45, 95]⟩ [(.mk 50 0 ⟨#[95, 94, 95]⟩ [(.mk 50 0 ⟨#[97]⟩ [] 0 0), (.mk 50 0 ⟨#[98]⟩ [] 0 0)] 0 0)] 0 0)), (⟨#[97, 32, 43, 32, 45, 32, 98]⟩, (.mk 50 0 ⟨#[95, 43, 95]⟩ [(.mk 50 0 ⟨#[97]⟩ [] 0 0), (.mk 50 0 ⟨#[45, 95]⟩ [(.mk 50 0 ⟨#[98]⟩ [] 0 0)] 0 0)] 0 0)), (⟨#[102, 40, 97, 44, 32, 98, 41, 32, 111, 102, 32, 110, 97, 116]⟩, (.mk 51 0 ⟨#[110, 97, 116]⟩ [(.mk 50 0 ⟨#[102]⟩ [(.mk 50 0 ⟨#[97]⟩ [] 0 0), (.mk 50 0 ⟨#[98]⟩ [] 0 0)] 0 0)] 0 0)), (⟨#[115, 40, 48, 41, 37]⟩, (.mk 50 0 ⟨#[95, 37]⟩ [(.mk 50 0 ⟨#[115]⟩ [(.mk 50 0 ⟨#[48]⟩ [] 0 0)] 0 0)] 0 0)), (⟨#[105, 102, 32, 97, 32, 60, 32, 98, 32, 116, 104, 101, 110, 32, 97, 32, 101, 108, 115, 101, 32, 98, 32, 43, 32, 99]⟩, (.mk 50 0 ⟨#[105, 102, 95, 116, 104, 101, 110, 95, 101, 108, 115, 101, 95]⟩ [(.mk 50 0 ⟨#[95, 60, 95]⟩ [(.mk 50 0 ⟨#[97]⟩ [] 0 0), (.mk 50 0 ⟨#[98]⟩ [] 0 0)] 0 0), (.mk 50 0 ⟨#[97]⟩ [] 0 0), (.mk 50 0 ⟨#[95, 43, 95]⟩ [(.mk 50 0 ⟨#[98]⟩ [] 0 0), (.mk 50 0 ⟨#[99]⟩ [] 0 0)] 0 0)] 0 0))]
def sane2 : List (ByteArray × Int × Int) := [(⟨#[97, 32, 60, 32, 98, 32, 60, 32, 99]⟩, 6, 22), (⟨#[97, 32, 94, 32, 45, 32, 98]⟩, 4, 22), (⟨#[40, 97]⟩, 2, 22), (⟨#[97, 32, 98]⟩, 2, 22), (⟨#[]⟩, 0, 20)]
def okSane1 (x : ByteArray × Nd) : Bool := match givenP lxP pExpr kdP tableM x.1 with
  | ⟨n, at_, e⟩ => decide (e = 0) && decide (at_ = 0) && same n x.2 && decide (n.b = 0) && decide (n.e = x.1.size)
def okSane2 (x : ByteArray × Int × Int) : Bool := match givenP lxP pExpr kdP tableM x.1 with
  | ⟨n, at_, e⟩ => decide (at_ = x.2.1) && decide (e = x.2.2)
theorem sane1_ok : sane1.all okSane1 = true := by decide +kernel
theorem sane2_ok : sane2.all okSane2 = true := by decide +kernel
end Go.Proofs.YtjcocblohiglbaaGreatDoor
/- Small functions of the laws: app, list, table, short. Conditions: none. -/
namespace Go.Proofs.YtjcocblohiglbaaGreatDoor
open Go.Dp
set_option linter.unusedVariables false
set_option linter.unusedSimpArgs false
/-- Operations and texts are small. -/
def goodM (m : Mx) : Bool := decide (m.parts.length ≤ 20) && !m.parts.any fun s => decide (100 < s.size)
def shortB (ops : List Mx) (txs : List ByteArray) : Bool := ops.all goodM && (decide (ops.length ≤ 300) && !txs.any fun s => decide (2000 < s.size))
theorem short_ops {ops : List Mx} {txs : List ByteArray} (h : shortB ops txs = true) : OpsOk ops ∧ ∀ s, s ∈ txs → s.size ≤ 2000 := by
  unfold shortB at h
  rw [Bool.and_eq_true, Bool.and_eq_true, decide_eq_true_eq, Bool.not_eq_true', List.all_eq_true] at h
  refine ⟨⟨h.2.1, fun m hm => ?_⟩, fun s hs => ?_⟩
  · have := h.1 m hm
    unfold goodM at this
    rw [Bool.and_eq_true, decide_eq_true_eq, Bool.not_eq_true'] at this
    refine ⟨this.1, fun s hs => ?_⟩
    have h2 := List.any_eq_false.1 this.2 s hs
    simp at h2
    exact h2
  · have h2 := List.any_eq_false.1 h.2.2 s hs
    simp at h2
    exact h2
section
variable (I : World → Prop)
set_option maxRecDepth 20000 in set_option maxHeartbeats 4000000 in
theorem sim_app (s : ByteArray) (L : List AV) : Sim Tryz.prog I 16 [str s, .sl 6 L] [] (fun o τ => o = .ret (.ag (nd 50 0 s (.sl 6 L) 0 0)) ∧ τ = []) := by
  refine sim_body Tryz.func16 rfl rfl rfl ?_
  repeat (any_goals (first | refine s_at ?_ | refine s_skip ?_ | refine s_off ?_ | refine s_offn ?_ | refine s_move ?_ | refine s_assign ?_ | refine s_load ?_ | refine s_loade ?_ | refine s_loadd ?_ | refine s_pick1 ?_ | refine s_pick0 ?_ | refine s_pure ?_ | refine s_nil ?_ | refine aw_seq ?_ | refine aw_seqr ?_ | refine aw_block ?_ | refine aw_true ?_ | refine aw_false ?_ | refine s_alloc (fun _ => ?_) | refine s_allocd (fun _ => ?_) | refine s_box (fun _ => ?_) | refine s_box1 (fun _ => ?_) | refine s_store' ?_))
  refine aw_ret ?_; (repeat (first | refine then_ret ?_ | refine inb_ret ?_))
  exact post_of ⟨rfl, rfl⟩ rvs pks
set_option maxRecDepth 20000 in set_option maxHeartbeats 4000000 in
theorem sim_app0 (s : ByteArray) : Sim Tryz.prog I 16 [str s, .sc (.slice none 0 0)] [] (fun o τ => o = .ret (.ag (nd 50 0 s (.sc (.slice none 0 0)) 0 0)) ∧ τ = []) := by
  refine sim_body Tryz.func16 rfl rfl rfl ?_
  repeat (any_goals (first | refine s_at ?_ | refine s_skip ?_ | refine s_off ?_ | refine s_offn ?_ | refine s_move ?_ | refine s_assign ?_ | refine s_load ?_ | refine s_loade ?_ | refine s_loadd ?_ | refine s_pick1 ?_ | refine s_pick0 ?_ | refine s_pure ?_ | refine s_nil ?_ | refine aw_seq ?_ | refine aw_seqr ?_ | refine aw_block ?_ | refine aw_true ?_ | refine aw_false ?_ | refine s_alloc (fun _ => ?_) | refine s_allocd (fun _ => ?_) | refine s_box (fun _ => ?_) | refine s_box1 (fun _ => ?_) | refine s_store' ?_))
  refine aw_ret ?_; (repeat (first | refine then_ret ?_ | refine inb_ret ?_))
  exact post_of ⟨rfl, rfl⟩ rvs pks
set_option maxRecDepth 20000 in set_option maxHeartbeats 4000000 in
theorem sim_lst0 : Sim Tryz.prog I 14 [.sc (.slice none 0 0)] [] (fun o τ => o = .ret (.ag (nd 8 0 ⟨#[]⟩ (.sc (.slice none 0 0)) 0 0)) ∧ τ = []) := by
  refine sim_body Tryz.func14 rfl rfl rfl ?_
  repeat (any_goals (first | refine s_at ?_ | refine s_skip ?_ | refine s_off ?_ | refine s_offn ?_ | refine s_move ?_ | refine s_assign ?_ | refine s_load ?_ | refine s_loade ?_ | refine s_loadd ?_ | refine s_pick1 ?_ | refine s_pick0 ?_ | refine s_pure ?_ | refine s_nil ?_ | refine aw_seq ?_ | refine aw_seqr ?_ | refine aw_block ?_ | refine aw_true ?_ | refine aw_false ?_ | refine s_alloc (fun _ => ?_) | refine s_allocd (fun _ => ?_) | refine s_box (fun _ => ?_) | refine s_box1 (fun _ => ?_) | refine s_store' ?_))
  refine aw_ret ?_; (repeat (first | refine then_ret ?_ | refine inb_ret ?_))
  exact post_of ⟨rfl, rfl⟩ rvs pks
set_option maxRecDepth 20000 in set_option maxHeartbeats 4000000 in
theorem sim_table : Sim Tryz.prog I 17 [] [] (fun o τ => o = .ret (.sl 5 (tableM.map emix)) ∧ τ = []) := by
  refine sim_body Tryz.func17 rfl rfl rfl ?_
  repeat (any_goals (first | refine s_at ?_ | refine s_skip ?_ | refine s_off ?_ | refine s_offn ?_ | refine s_move ?_ | refine s_assign ?_ | refine s_load ?_ | refine s_loade ?_ | refine s_loadd ?_ | refine s_pick1 ?_ | refine s_pick0 ?_ | refine s_pure ?_ | refine s_nil ?_ | refine aw_seq ?_ | refine aw_seqr ?_ | refine aw_block ?_ | refine aw_true ?_ | refine aw_false ?_ | refine s_alloc (fun _ => ?_) | refine s_allocd (fun _ => ?_) | refine s_box (fun _ => ?_) | refine s_box1 (fun _ => ?_) | refine s_store' ?_ | refine s_litq ?_))
  refine aw_ret ?_; (repeat (first | refine then_ret ?_ | refine inb_ret ?_))
  exact post_of ⟨rfl, rfl⟩ rvs pks
set_option maxRecDepth 20000 in set_option maxHeartbeats 4000000 in
theorem sim_short1 (s : ByteArray) : Sim Tryz.prog I 20 [str s] [] (fun o τ => o = .ret (boo (decide (100 < s.size))) ∧ τ = []) := by
  refine sim_body Tryz.func20 rfl rfl rfl ?_
  repeat (any_goals (first | refine s_at ?_ | refine s_skip ?_ | refine s_off ?_ | refine s_offn ?_ | refine s_move ?_ | refine s_assign ?_ | refine s_load ?_ | refine s_loade ?_ | refine s_loadd ?_ | refine s_pick1 ?_ | refine s_pick0 ?_ | refine s_pure ?_ | refine s_nil ?_ | refine aw_seq ?_ | refine aw_seqr ?_ | refine aw_block ?_ | refine aw_true ?_ | refine aw_false ?_ | refine s_alloc (fun _ => ?_) | refine s_allocd (fun _ => ?_) | refine s_box (fun _ => ?_) | refine s_box1 (fun _ => ?_) | refine s_store' ?_ | refine s_cmp (fun h => ?_) (fun h => ?_)))
  all_goals
    refine aw_ret ?_; (repeat (first | refine then_ret ?_ | refine inb_ret ?_))
    refine post_of ⟨?_, rfl⟩ rvs pks
    simp only [oneOf, boo]
    congr 3
    simp only [decide_eq_true_eq, decide_eq_false_iff_not, eq_comm (a := true), eq_comm (a := false)]
    omega
set_option maxRecDepth 20000 in set_option maxHeartbeats 4000000 in
theorem sim_short2 (s : ByteArray) : Sim Tryz.prog I 21 [str s] [] (fun o τ => o = .ret (boo (decide (2000 < s.size))) ∧ τ = []) := by
  refine sim_body Tryz.func21 rfl rfl rfl ?_
  repeat (any_goals (first | refine s_at ?_ | refine s_skip ?_ | refine s_off ?_ | refine s_offn ?_ | refine s_move ?_ | refine s_assign ?_ | refine s_load ?_ | refine s_loade ?_ | refine s_loadd ?_ | refine s_pick1 ?_ | refine s_pick0 ?_ | refine s_pure ?_ | refine s_nil ?_ | refine aw_seq ?_ | refine aw_seqr ?_ | refine aw_block ?_ | refine aw_true ?_ | refine aw_false ?_ | refine s_alloc (fun _ => ?_) | refine s_allocd (fun _ => ?_) | refine s_box (fun _ => ?_) | refine s_box1 (fun _ => ?_) | refine s_store' ?_ | refine s_cmp (fun h => ?_) (fun h => ?_)))
  all_goals
    refine aw_ret ?_; (repeat (first | refine then_ret ?_ | refine inb_ret ?_))
    refine post_of ⟨?_, rfl⟩ rvs pks
    simp only [oneOf, boo]
    congr 3
    simp only [decide_eq_true_eq, decide_eq_false_iff_not, eq_comm (a := true), eq_comm (a := false)]
    omega
set_option maxRecDepth 20000 in set_option maxHeartbeats 4000000 in
theorem sim_short (ops : List Mx) (txs : List ByteArray) (hl : ops.length ≤ 9223372036854775807) (ht : txs.length ≤ 1000) : Sim Tryz.prog I 8 [.sl 5 (ops.map emix), .sl 1 (txs.map fun s => str s)] [] (fun o τ => o = .ret (boo (shortB ops txs)) ∧ τ = []) := by
  have hle : (ops.map emix).length = ops.length := List.length_map ..
  have gT := sim_containsF I 21 [] [] (fun s => decide (2000 < s.size)) txs (by omega) (fun s hs => sim_short2 I s)
  refine sim_body Tryz.func8 rfl rfl rfl ?_
  repeat (any_goals (first | refine s_at ?_ | refine s_skip ?_ | refine s_off ?_ | refine s_offn ?_ | refine s_move ?_ | refine s_assign ?_ | refine s_load ?_ | refine s_loade ?_ | refine s_loadd ?_ | refine s_pick1 ?_ | refine s_pick0 ?_ | refine s_pure ?_ | refine s_nil ?_ | refine aw_seq ?_ | refine aw_seqr ?_ | refine aw_block ?_ | refine aw_true ?_ | refine aw_false ?_ | refine s_alloc (fun _ => ?_) | refine s_allocd (fun _ => ?_) | refine s_box (fun _ => ?_) | refine s_box1 (fun _ => ?_) | refine s_store' ?_))
  unfold shortB
  generalize hB : (decide (ops.length ≤ 300) && !txs.any fun s => decide (2000 < s.size)) = B
  generalize hres : (ops.all goodM && B) = res
  refine aw_loop (fun i : Nat => [(0, .sl 5 (ops.map emix)), (1, .sl 1 (txs.map fun s => str s)), (7, .sl 5 (ops.map emix)), (8, i64 ((ops.map emix).length : Int)), (9, i64 (i : Int))]) (fun _ => [])
    (fun i => i ≤ ops.length ∧ ((ops.drop i).all goodM && B) = res) (fun i => ops.length - i) 0 ⟨Nat.zero_le _, by rw [List.drop_zero]; exact hres⟩ els [] (List.Perm.refl _) ?_
  rintro i ⟨i1, i2⟩
  try dsimp only at i1 i2 ⊢
  by_cases hi : i < ops.length
  · obtain ⟨m, hm⟩ : ∃ m, ops[i]? = some m := ⟨ops[i], List.getElem?_eq_getElem hi⟩
    have g1 : (ops.map emix)[i]? = some (emix m) := by rw [List.getElem?_map, hm]; rfl
    have hd : ops.drop i = m :: ops.drop (i + 1) := by
      obtain ⟨h1, e1⟩ := List.getElem?_eq_some_iff.1 hm
      rw [List.drop_eq_getElem_cons h1, e1]
    rw [hd, List.all_cons] at i2
    have hml : (m.parts.map fun s => str s).length = m.parts.length := List.length_map ..
    unfold emix emixL at g1
    by_cases h20 : m.parts.length ≤ 20
    · have gP := sim_containsF I 20 [] [] (fun s => decide (100 < s.size)) m.parts (by omega) (fun s hs => sim_short1 I s)
      unfold goodM at i2
      rw [decide_eq_true h20, Bool.true_and] at i2
      cases hany : m.parts.any fun s => decide (100 < s.size) with
      | true =>
        rw [hany] at gP i2
        repeat (any_goals (first | refine s_at ?_ | refine s_skip ?_ | refine s_off ?_ | refine s_offn ?_ | refine s_move ?_ | refine s_assign ?_ | refine s_load ?_ | refine s_loade ?_ | refine s_loadd ?_ | refine s_pick1 ?_ | refine s_pick0 ?_ | refine s_pure ?_ | refine s_nil ?_ | refine aw_seq ?_ | refine aw_seqr ?_ | refine aw_block ?_ | refine aw_true ?_ | refine aw_false ?_ | refine s_alloc (fun _ => ?_) | refine s_allocd (fun _ => ?_) | refine s_box (fun _ => ?_) | refine s_box1 (fun _ => ?_) | refine s_store' ?_ | (refine s_cmp (fun h => ?_) (fun h => ?_) <;> try (exfalso; omega)) | refine s_elem i g1 ?_ | refine s_call0 gP ?_))
        refine aw_ret ?_; (repeat (first | refine then_ret ?_ | refine inb_ret ?_))
        refine post_of ⟨?_, rfl⟩ rvs pks
        rw [← i2]; rfl
      | false =>
        rw [hany] at gP i2
        rw [Bool.not_false, Bool.true_and] at i2
        repeat (any_goals (first | refine s_at ?_ | refine s_skip ?_ | refine s_off ?_ | refine s_offn ?_ | refine s_move ?_ | refine s_assign ?_ | refine s_load ?_ | refine s_loade ?_ | refine s_loadd ?_ | refine s_pick1 ?_ | refine s_pick0 ?_ | refine s_pure ?_ | refine s_nil ?_ | refine aw_seq ?_ | refine aw_seqr ?_ | refine aw_block ?_ | refine aw_true ?_ | refine aw_false ?_ | refine s_alloc (fun _ => ?_) | refine s_allocd (fun _ => ?_) | refine s_box (fun _ => ?_) | refine s_box1 (fun _ => ?_) | refine s_store' ?_ | (refine s_cmp (fun h => ?_) (fun h => ?_) <;> try (exfalso; omega)) | refine s_elem i g1 ?_ | refine s_call0 gP ?_ | refine s_add ?_))
        refine d_end fun env' he => then_nor (rnd_end (i + 1) pks ⟨by omega, i2⟩ (by omega) (EnvLe.of_eq he els))
    · unfold goodM at i2
      rw [decide_eq_false h20, Bool.false_and, Bool.false_and, Bool.false_and] at i2
      repeat (any_goals (first | refine s_at ?_ | refine s_skip ?_ | refine s_off ?_ | refine s_offn ?_ | refine s_move ?_ | refine s_assign ?_ | refine s_load ?_ | refine s_loade ?_ | refine s_loadd ?_ | refine s_pick1 ?_ | refine s_pick0 ?_ | refine s_pure ?_ | refine s_nil ?_ | refine aw_seq ?_ | refine aw_seqr ?_ | refine aw_block ?_ | refine aw_true ?_ | refine aw_false ?_ | refine s_alloc (fun _ => ?_) | refine s_allocd (fun _ => ?_) | refine s_box (fun _ => ?_) | refine s_box1 (fun _ => ?_) | refine s_store' ?_ | (refine s_cmp (fun h => ?_) (fun h => ?_) <;> try (exfalso; omega)) | refine s_elem i g1 ?_))
      refine aw_ret ?_; (repeat (first | refine then_ret ?_ | refine inb_ret ?_))
      refine post_of ⟨?_, rfl⟩ rvs pks
      rw [← i2]; rfl
  · rw [List.drop_of_length_le (by omega), List.all_nil, Bool.true_and] at i2
    subst i2
    cases hany : txs.any fun s => decide (2000 < s.size) with
    | true =>
      rw [hany] at gT hB
      rw [Bool.not_true, Bool.and_false] at hB
      repeat (any_goals (first | refine s_at ?_ | refine s_skip ?_ | refine s_off ?_ | refine s_offn ?_ | refine s_move ?_ | refine s_assign ?_ | refine s_load ?_ | refine s_loade ?_ | refine s_loadd ?_ | refine s_pick1 ?_ | refine s_pick0 ?_ | refine s_pure ?_ | refine s_nil ?_ | refine aw_seq ?_ | refine aw_seqr ?_ | refine aw_block ?_ | refine aw_true ?_ | refine aw_false ?_ | refine s_alloc (fun _ => ?_) | refine s_allocd (fun _ => ?_) | refine s_box (fun _ => ?_) | refine s_box1 (fun _ => ?_) | refine s_store' ?_ | (refine s_cmp (fun h => ?_) (fun h => ?_) <;> try (exfalso; omega))))
      all_goals
        refine aw_exit ?_; (repeat refine then_exit ?_); refine inb_exit ?_; refine then_nor ?_
        repeat (any_goals (first | refine s_at ?_ | refine s_skip ?_ | refine s_off ?_ | refine s_offn ?_ | refine s_move ?_ | refine s_assign ?_ | refine s_load ?_ | refine s_loade ?_ | refine s_loadd ?_ | refine s_pick1 ?_ | refine s_pick0 ?_ | refine s_pure ?_ | refine s_nil ?_ | refine aw_seq ?_ | refine aw_seqr ?_ | refine aw_block ?_ | refine aw_true ?_ | refine aw_false ?_ | refine s_alloc (fun _ => ?_) | refine s_allocd (fun _ => ?_) | refine s_box (fun _ => ?_) | refine s_box1 (fun _ => ?_) | refine s_store' ?_ | (refine s_cmp (fun h => ?_) (fun h => ?_)) | refine s_call0 gT ?_))
        all_goals
          refine aw_ret ?_; (repeat (first | refine then_ret ?_ | refine inb_ret ?_))
          refine post_of ⟨?_, rfl⟩ rvs pks
          rw [← hB]; rfl
    | false =>
      rw [hany] at gT hB
      rw [Bool.not_false, Bool.and_true] at hB
      by_cases h300 : ops.length ≤ 300
      · rw [decide_eq_true h300] at hB
        repeat (any_goals (first | refine s_at ?_ | refine s_skip ?_ | refine s_off ?_ | refine s_offn ?_ | refine s_move ?_ | refine s_assign ?_ | refine s_load ?_ | refine s_loade ?_ | refine s_loadd ?_ | refine s_pick1 ?_ | refine s_pick0 ?_ | refine s_pure ?_ | refine s_nil ?_ | refine aw_seq ?_ | refine aw_seqr ?_ | refine aw_block ?_ | refine aw_true ?_ | refine aw_false ?_ | refine s_alloc (fun _ => ?_) | refine s_allocd (fun _ => ?_) | refine s_box (fun _ => ?_) | refine s_box1 (fun _ => ?_) | refine s_store' ?_ | (refine s_cmp (fun h => ?_) (fun h => ?_) <;> try (exfalso; omega))))
        refine aw_exit ?_; (repeat refine then_exit ?_); refine inb_exit ?_; refine then_nor ?_
        repeat (any_goals (first | refine s_at ?_ | refine s_skip ?_ | refine s_off ?_ | refine s_offn ?_ | refine s_move ?_ | refine s_assign ?_ | refine s_load ?_ | refine s_loade ?_ | refine s_loadd ?_ | refine s_pick1 ?_ | refine s_pick0 ?_ | refine s_pure ?_ | refine s_nil ?_ | refine aw_seq ?_ | refine aw_seqr ?_ | refine aw_block ?_ | refine aw_true ?_ | refine aw_false ?_ | refine s_alloc (fun _ => ?_) | refine s_allocd (fun _ => ?_) | refine s_box (fun _ => ?_) | refine s_box1 (fun _ => ?_) | refine s_store' ?_ | (refine s_cmp (fun h => ?_) (fun h => ?_) <;> try (exfalso; omega)) | refine s_call0 gT ?_))
        refine aw_ret ?_; (repeat (first | refine then_ret ?_ | refine inb_ret ?_))
        refine post_of ⟨?_, rfl⟩ rvs pks
        rw [← hB]; rfl
      · rw [decide_eq_false h300] at hB
        repeat (any_goals (first | refine s_at ?_ | refine s_skip ?_ | refine s_off ?_ | refine s_offn ?_ | refine s_move ?_ | refine s_assign ?_ | refine s_load ?_ | refine s_loade ?_ | refine s_loadd ?_ | refine s_pick1 ?_ | refine s_pick0 ?_ | refine s_pure ?_ | refine s_nil ?_ | refine aw_seq ?_ | refine aw_seqr ?_ | refine aw_block ?_ | refine aw_true ?_ | refine aw_false ?_ | refine s_alloc (fun _ => ?_) | refine s_allocd (fun _ => ?_) | refine s_box (fun _ => ?_) | refine s_box1 (fun _ => ?_) | refine s_store' ?_ | (refine s_cmp (fun h => ?_) (fun h => ?_) <;> try (exfalso; omega))))
        refine aw_exit ?_; (repeat refine then_exit ?_); refine inb_exit ?_; refine then_nor ?_
        repeat (any_goals (first | refine s_at ?_ | refine s_skip ?_ | refine s_off ?_ | refine s_offn ?_ | refine s_move ?_ | refine s_assign ?_ | refine s_load ?_ | refine s_loade ?_ | refine s_loadd ?_ | refine s_pick1 ?_ | refine s_pick0 ?_ | refine s_pure ?_ | refine s_nil ?_ | refine aw_seq ?_ | refine aw_seqr ?_ | refine aw_block ?_ | refine aw_true ?_ | refine aw_false ?_ | refine s_alloc (fun _ => ?_) | refine s_allocd (fun _ => ?_) | refine s_box (fun _ => ?_) | refine s_box1 (fun _ => ?_) | refine s_store' ?_ | (refine s_cmp (fun h => ?_) (fun h => ?_) <;> try (exfalso; omega))))
        refine aw_ret ?_; (repeat (first | refine then_ret ?_ | refine inb_ret ?_))
        refine post_of ⟨?_, rfl⟩ rvs pks
        rw [← hB]; rfl
end
end Go.Proofs.YtjcocblohiglbaaGreatDoor
