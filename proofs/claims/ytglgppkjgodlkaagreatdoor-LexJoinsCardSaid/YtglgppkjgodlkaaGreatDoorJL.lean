/- The reference of package lex, walked over deep values: Strip. Conditions: none. -/
import Derived.Test.YtglgppkjgodlkaaGreatDoorJK
import Derived.Test.YtglgppkjgodlkaaGreatDoorME
namespace Go.Proofs.YtglgppkjgodlkaaGreatDoor.J
open Go.Dp Rl
set_option linter.unusedVariables false
set_option linter.unusedSimpArgs false
theorem runs_inv {l : Lex.Bytes} {p : Nat} {ts : List Lex.Tok} {cs : List (Nat × Nat)} {l' : Lex.Bytes} {p' : Nat} (h : Lex.Runs l p ts cs l' p') :
    (l' = l ∧ ts = [] ∧ cs = [] ∧ p' = p) ∨ (Lex.step l = .skip ∧ Lex.Runs (l.drop 1) (p + 1) ts cs l' p') ∨ (∃ k cs', Lex.step l = .comm k ∧ cs = (p, p + k) :: cs' ∧ Lex.Runs (l.drop k) (p + k) ts cs' l' p') ∨
      ∃ kd n s k ts', Lex.step l = .tok kd n s k ∧ ts = ⟨kd, n, s, p, p + k⟩ :: ts' ∧ Lex.Runs (l.drop k) (p + k) ts' cs l' p' := by
  cases h with
  | nil => exact .inl ⟨rfl, rfl, rfl, rfl⟩
  | skip h r => exact .inr (.inl ⟨h, r⟩)
  | comm h r => exact .inr (.inr (.inl ⟨_, _, h, rfl, r⟩))
  | tok h r => exact .inr (.inr (.inr ⟨_, _, _, _, _, h, rfl, r⟩))
theorem toks_from {l : Lex.Bytes} {p : Nat} {ts : List Lex.Tok} {cs : List (Nat × Nat)} {l' : Lex.Bytes} {p' : Nat} (h : Lex.Runs l p ts cs l' p') : ∀ t, t ∈ ts → p ≤ t.b ∧ t.b ≤ p' := by
  induction h with
  | nil => intro t ht; cases ht
  | skip h _ ih => intro t ht; have := ih t ht; omega
  | comm h _ ih => intro t ht; have := ih t ht; omega
  | tok h hr ih =>
    intro t ht
    have hk := Lex.step_tok h
    obtain ⟨k, e1, _, _⟩ := hr.place
    rcases List.mem_cons.1 ht with rfl | ht
    · dsimp only; omega
    · have := ih t ht; omega
theorem comm_beg {c : UInt8} {r : Lex.Bytes} {k : Nat} (h : Lex.step (c :: r) = .comm k) : Lex.isBlank c = false ∧ Lex.begComment (c :: r) = true := by
  have hb : Lex.isBlank c = false := by
    cases hb : Lex.isBlank c with
    | false => rfl
    | true => rw [Lex.blank_step hb] at h; cases h
  refine ⟨hb, ?_⟩
  cases hg : Lex.begComment (c :: r) with
  | true => rfl
  | false => exact absurd h ((step_real hb hg).2 k)
theorem skip_blank {c : UInt8} {r : Lex.Bytes} (h : Lex.step (c :: r) = .skip) : Lex.isBlank c = true := by
  cases hb : Lex.isBlank c with
  | true => rfl
  | false =>
    cases hg : Lex.begComment (c :: r) with
    | true =>
      have := step_beg hg
      rw [h] at this
      cases hc : Lex.comLen 0 (c :: r) <;> rw [hc] at this <;> cases this
    | false => exact absurd h (step_real hb hg).1
theorem getD_at {l : Lex.Bytes} {i : Nat} {c : UInt8} (h : l[i]? = some c) (d : UInt8) : l.getD i d = c := by rw [List.getD_eq_getElem?_getD, h]; rfl
section
variable (I : World → Prop)
set_option maxRecDepth 20000 in set_option maxHeartbeats 4000000 in
theorem strip_inner (a : ByteArray) (ha' : a.size ≤ 140737488351232) (ts : List Lex.Tok) (b7 m nx q k : Nat) (buf : Lex.Bytes) (q3 : buf.length = a.size) (hqk : q + k ≤ a.size) (Q : Exit → Env → List Rs → Prop)
    (hQ : ∀ env', EnvLe env' [(0, str a), (4, .sl 5 (ts.map etk)), (7, .sc (.slice (some ⟨b7, 0, none⟩) a.size (a.size + m))), (8, i64 (nx : Int)), (10, i64 ((q + k : Nat) : Int))] → Q .normal env' [.box b7 (byL (Lex.blanked k buf q ++ List.replicate m 0)) 5]) :
    AW Tryz.prog I Tryz.f34.ntmps (sndC (fstC (sndC (elsC (sndC (elsC (sndC (blkC (sndC (loopC (blkC (sndC (fstC (sndC (sndC (sndC (sndC (sndC (bodyC Tryz.f34))))))))))))))))))) Q [(0, str a), (4, .sl 5 (ts.map etk)), (7, .sc (.slice (some ⟨b7, 0, none⟩) a.size (a.size + m))), (8, i64 (nx : Int)), (10, i64 ((q + k : Nat) : Int)), (11, i64 (q : Int))] [.box b7 (byL (buf ++ List.replicate m 0)) 5] := by
  show AW _ _ _ (Code.block _ _) _ _ _
  refine aw_block ?_
  refine aw_loop (fun s : Nat × Lex.Bytes => [(0, str a), (4, .sl 5 (ts.map etk)), (7, .sc (.slice (some ⟨b7, 0, none⟩) a.size (a.size + m))), (8, i64 (nx : Int)), (10, i64 ((q + k : Nat) : Int)), (11, i64 (s.1 : Int))])
    (fun s => [.box b7 (byL (s.2 ++ List.replicate m 0)) 5])
    (fun s => q ≤ s.1 ∧ s.1 ≤ q + k ∧ s.2.length = a.size ∧ Lex.blanked (q + k - s.1) s.2 s.1 = Lex.blanked k buf q) (fun s => q + k - s.1) (q, buf) ⟨Nat.le_refl _, Nat.le_add_right _ _, q3, by rw [show q + k - q = k by omega]⟩ (EnvLe.of_list (by intro x hx; simp only [List.mem_cons, List.not_mem_nil, or_false] at hx; (repeat (rcases hx with rfl | hx; (focus rfl))); (try (subst hx; rfl)))) [] (List.Perm.refl _) ?_
  rintro ⟨j, bf⟩ ⟨j1, j2, j3, j4⟩
  dsimp only at j1 j2 j3 j4 ⊢
  by_cases hj : j < q + k
  · have hjl : j < bf.length := by omega
    have hbx : bf[j]? = some (bf[j]'hjl) := List.getElem?_eq_getElem hjl
    generalize bf[j]'hjl = y at hbx
    have hcell : (byL (bf ++ List.replicate m 0))[j]? = some (byV y) := byL_get (by rw [List.getElem?_append_left hjl]; exact hbx)
    rw [show q + k - j = (q + k - (j + 1)) + 1 by omega, Lex.blanked, Lex.blankAt, getD_at hbx] at j4
    have hbl2 : (byL (bf ++ List.replicate m 0)).length = a.size + m := by rw [byL_length, List.length_append, List.length_replicate, j3]
    have hjn : j < a.size := by omega
    have hjb : j < (byL (bf ++ List.replicate m 0)).length := by omega
    have hset : (byL (bf ++ List.replicate m 0)).set j (byV 32) = byL (bf.set j 32 ++ List.replicate m 0) := by
      rw [byL, ← List.map_set, List.set_append_left _ _ hjl]; rfl
    by_cases h10 : y = 10
    · have h10' : ((y.toNat : Nat) : Int) = 10 := by rw [h10]; rfl
      rw [if_pos h10] at j4
      repeat (any_goals (first | (refine s_cellAddr j rfl hjn ?_) | (refine s_loadAt hcell (Pick.here _) ?_) | refine s_at ?_ | refine s_skip ?_ | refine s_off ?_ | refine s_offn ?_ | refine s_move ?_ | refine s_assign ?_ | refine s_load ?_ | refine s_loade ?_ | refine s_loadd ?_ | refine s_pick1 ?_ | refine s_pick0 ?_ | refine s_pure ?_ | refine s_nil ?_ | refine aw_seq ?_ | refine aw_seqr ?_ | refine aw_block ?_ | refine aw_true ?_ | refine aw_false ?_ | refine s_alloc (fun _ => ?_) | refine s_allocd (fun _ => ?_) | refine s_box (fun _ => ?_) | refine s_box1 (fun _ => ?_) | refine s_store' ?_ | (refine s_cmp (fun h => ?_) (fun h => ?_) <;> try (exfalso; first | omega | exact h h10')) | refine s_add ?_))
      refine d_end fun env' he => ?_
      (repeat (first | refine inb_nor ?_ | refine then_nor ?_))
      refine ⟨(j + 1, bf), _, ⟨by dsimp only; omega, by dsimp only; omega, j3, j4⟩, by dsimp only; omega, EnvLe.of_eq he (EnvLe.of_list (by intro x hx; simp only [List.mem_cons, List.not_mem_nil, or_false] at hx; (repeat (rcases hx with rfl | hx; (focus rfl))); (try (subst hx; rfl)))), Picks.perm (by (repeat (first | exact Picks.nil _ | (apply Picks.cons; focus ((repeat (first | exact Pick.here _ | apply Pick.there)); (first | done | fail))))))⟩
    · have h10' : ¬ ((y.toNat : Nat) : Int) = 10 := fun h => h10 (byte_eq (c := 10) |>.1 h)
      rw [if_neg h10] at j4
      repeat (any_goals (first | (refine s_cellAddr j rfl hjn ?_) | (refine s_loadAt hcell (Pick.here _) ?_) | (refine s_storeAt (v := byV 32) hjb (Pick.here _) ?_; rw [hset]) | refine s_at ?_ | refine s_skip ?_ | refine s_off ?_ | refine s_offn ?_ | refine s_move ?_ | refine s_assign ?_ | refine s_load ?_ | refine s_loade ?_ | refine s_loadd ?_ | refine s_pick1 ?_ | refine s_pick0 ?_ | refine s_pure ?_ | refine s_nil ?_ | refine aw_seq ?_ | refine aw_seqr ?_ | refine aw_block ?_ | refine aw_true ?_ | refine aw_false ?_ | refine s_alloc (fun _ => ?_) | refine s_allocd (fun _ => ?_) | refine s_box (fun _ => ?_) | refine s_box1 (fun _ => ?_) | refine s_store' ?_ | (refine s_cmp (fun h => ?_) (fun h => ?_) <;> try (exfalso; first | omega | exact h10' h)) | refine s_add ?_))
      refine d_end fun env' he => ?_
      (repeat (first | refine inb_nor ?_ | refine then_nor ?_))
      refine ⟨(j + 1, bf.set j 32), _, ⟨by dsimp only; omega, by dsimp only; omega, by dsimp only; rw [List.length_set]; exact j3, j4⟩, by dsimp only; omega, EnvLe.of_eq he (EnvLe.of_list (by intro x hx; simp only [List.mem_cons, List.not_mem_nil, or_false] at hx; (repeat (rcases hx with rfl | hx; (focus rfl))); (try (subst hx; rfl)))), Picks.perm (by (repeat (first | exact Picks.nil _ | (apply Picks.cons; focus ((repeat (first | exact Pick.here _ | apply Pick.there)); (first | done | fail))))))⟩
  · obtain rfl : j = q + k := by omega
    rw [Nat.sub_self, Lex.blanked] at j4
    subst j4
    repeat (any_goals (first | refine s_at ?_ | refine s_skip ?_ | refine s_off ?_ | refine s_offn ?_ | refine s_move ?_ | refine s_assign ?_ | refine s_load ?_ | refine s_loade ?_ | refine s_loadd ?_ | refine s_pick1 ?_ | refine s_pick0 ?_ | refine s_pure ?_ | refine s_nil ?_ | refine aw_seq ?_ | refine aw_seqr ?_ | refine aw_block ?_ | refine aw_true ?_ | refine aw_false ?_ | refine s_alloc (fun _ => ?_) | refine s_allocd (fun _ => ?_) | refine s_box (fun _ => ?_) | refine s_box1 (fun _ => ?_) | refine s_store' ?_ | (refine s_cmp (fun h => ?_) (fun h => ?_) <;> try (exfalso; omega))))
    refine aw_exit ?_
    repeat (first | refine then_exit ?_ | refine inb_exit ?_)
    exact hQ _ (EnvLe.of_list (by intro x hx; simp only [List.mem_cons, List.not_mem_nil, or_false] at hx; (repeat (rcases hx with rfl | hx; (focus rfl))); (try (subst hx; rfl))))
abbrev stE (a : ByteArray) (ts : List Lex.Tok) (b7 m q nx : Nat) : Env := [(0, str a), (4, .sl 5 (ts.map etk)), (7, .sc (.slice (some ⟨b7, 0, none⟩) a.size (a.size + m))), (8, i64 (nx : Int)), (9, i64 (q : Int))]
set_option maxRecDepth 20000 in set_option maxHeartbeats 4000000 in
theorem strip_round (a : ByteArray) (ha : Small a) (ts : List Lex.Tok) (hl3 : ts.length ≤ 20000) (res : Lex.Bytes) (b7 m q nx : Nat) (buf : Lex.Bytes) (cr : List (Nat × Nat)) (hq : q < a.size) (q2 : nx ≤ ts.length) (q3 : buf.length = a.size) (q4 : Lex.Runs (a.data.toList.drop q) q (ts.drop nx) cr [] a.data.toList.length) (q5 : Lex.blankAll buf cr = res) (Q : Exit → Env → List Rs → Prop)
    (hQ : ∀ q' nx' buf' cr', q < q' → q' ≤ a.size → nx' ≤ ts.length → buf'.length = a.size → Lex.Runs (a.data.toList.drop q') q' (ts.drop nx') cr' [] a.data.toList.length → Lex.blankAll buf' cr' = res → ∀ env', EnvLe env' (stE a ts b7 m q' nx') → Q .normal env' [.box b7 (byL (buf' ++ List.replicate m 0)) 5]) :
    AW Tryz.prog I Tryz.f34.ntmps (loopC (blkC (sndC (fstC (sndC (sndC (sndC (sndC (sndC (bodyC Tryz.f34)))))))))) Q [(0, str a), (4, .sl 5 (ts.map etk)), (7, .sc (.slice (some ⟨b7, 0, none⟩) a.size (a.size + m))), (8, i64 (nx : Int)), (9, i64 (q : Int))] [.box b7 (byL (buf ++ List.replicate m 0)) 5] := by
  have ha' : a.size ≤ 140737488351232 := ha
  have hll := size_l a
  have hml : (ts.map etk).length = ts.length := List.length_map ..
  have q1 : q ≤ a.size := by omega
  show AW _ _ _ (Code.seq _ _) _ _ _
  obtain ⟨x, hx, hd⟩ := drop_at hq
  have hcb := sim_blank I x
  rw [hd] at q4
  -- the next token does not begin here
  have away : (∀ t, t ∈ ts.drop nx → q < t.b) → nx < ts.length → ∃ t : Lex.Tok, (ts.map etk)[nx]? = some (.ag [i64 t.kind, i64 t.n, str (bs t.s), i64 (t.b : Int), i64 (t.e : Int)]) ∧ q < t.b := by
    intro h hn
    refine ⟨ts[nx], by rw [List.getElem?_map, List.getElem?_eq_getElem hn]; rfl, h _ ?_⟩
    rw [List.drop_eq_getElem_cons hn]
    exact List.mem_cons_self ..
  rcases runs_inv q4 with ⟨h1, _, _, h2⟩ | ⟨h1, h2⟩ | ⟨k, cs', h1, rfl, h2⟩ | ⟨kd, n, s, k, ts', h1, h3, h2⟩
  · cases h1
  · have hbl := skip_blank h1
    rw [hbl] at hcb
    have hfar : ∀ t, t ∈ ts.drop nx → q < t.b := fun t ht => by have := (toks_from h2 t ht).1; omega
    by_cases hn : nx < ts.length
    · obtain ⟨t, g1, g2⟩ := away hfar hn
      clear away hfar
      repeat (any_goals (first | refine s_at ?_ | refine s_skip ?_ | refine s_off ?_ | refine s_offn ?_ | refine s_move ?_ | refine s_assign ?_ | refine s_load ?_ | refine s_loade ?_ | refine s_loadd ?_ | refine s_pick1 ?_ | refine s_pick0 ?_ | refine s_pure ?_ | refine s_nil ?_ | refine aw_seq ?_ | refine aw_seqr ?_ | refine aw_block ?_ | refine aw_true ?_ | refine aw_false ?_ | refine s_alloc (fun _ => ?_) | refine s_allocd (fun _ => ?_) | refine s_box (fun _ => ?_) | refine s_box1 (fun _ => ?_) | refine s_store' ?_ | (refine s_cmp (fun h => ?_) (fun h => ?_) <;> try (exfalso; omega)) | refine s_elem nx g1 ?_ | refine s_index q hx ?_ | refine s_call0 hcb ?_ | refine s_add ?_))
      refine d_end fun env' he => ?_
      (repeat (first | refine inb_nor ?_ | refine then_nor ?_))
      exact hQ (q + 1) nx buf cr (by omega) (by omega) q2 q3 h2 q5 _ (EnvLe.of_eq he (EnvLe.of_list (by intro x hx; simp only [List.mem_cons, List.not_mem_nil, or_false] at hx; (repeat (rcases hx with rfl | hx; (focus rfl))); (try (subst hx; rfl)))))
    · clear away hfar
      repeat (any_goals (first | refine s_at ?_ | refine s_skip ?_ | refine s_off ?_ | refine s_offn ?_ | refine s_move ?_ | refine s_assign ?_ | refine s_load ?_ | refine s_loade ?_ | refine s_loadd ?_ | refine s_pick1 ?_ | refine s_pick0 ?_ | refine s_pure ?_ | refine s_nil ?_ | refine aw_seq ?_ | refine aw_seqr ?_ | refine aw_block ?_ | refine aw_true ?_ | refine aw_false ?_ | refine s_alloc (fun _ => ?_) | refine s_allocd (fun _ => ?_) | refine s_box (fun _ => ?_) | refine s_box1 (fun _ => ?_) | refine s_store' ?_ | (refine s_cmp (fun h => ?_) (fun h => ?_) <;> try (exfalso; omega)) | refine s_index q hx ?_ | refine s_call0 hcb ?_ | refine s_add ?_))
      refine d_end fun env' he => ?_
      (repeat (first | refine inb_nor ?_ | refine then_nor ?_))
      exact hQ (q + 1) nx buf cr (by omega) (by omega) q2 q3 h2 q5 _ (EnvLe.of_eq he (EnvLe.of_list (by intro x hx; simp only [List.mem_cons, List.not_mem_nil, or_false] at hx; (repeat (rcases hx with rfl | hx; (focus rfl))); (try (subst hx; rfl)))))
  · obtain ⟨hbl, hbg⟩ := comm_beg h1
    rw [hbl] at hcb
    have hcl : Lex.comLen 0 (a.data.toList.drop q) = some k := by
      have := step_beg hbg
      rw [h1] at this
      rw [hd]
      cases hc : Lex.comLen 0 (x :: a.data.toList.drop (q + 1)) with
      | none => rw [hc] at this; cases this
      | some k' => rw [hc] at this; injection this with this; rw [this]
    have hcm := sim_comment I a ha q q1 (by rw [hd]; exact hbg)
    rw [hcl, show comRes q (some k) = ((q + k : Nat) : Int) from rfl] at hcm
    have hkb := Lex.step_comm h1
    have hkl : (x :: a.data.toList.drop (q + 1)).length = a.size - q := by rw [← hd, List.length_drop, size_l]
    have hqk : q + k ≤ a.size := by omega
    have hk1 : q < q + k := by omega
    have hfar : ∀ t, t ∈ ts.drop nx → q < t.b := fun t ht => by have := (toks_from h2 t ht).1; omega
    have hdk : (x :: a.data.toList.drop (q + 1)).drop k = a.data.toList.drop (q + k) := by rw [← hd, List.drop_drop]
    rw [hdk] at h2
    rw [Lex.blankAll, List.foldl_cons, show (q + k) - q = k by omega] at q5
    have hbk : (Lex.blanked k buf q).length = a.size := by rw [Lex.blanked_len]; exact q3
    have hin := strip_inner I a ha' ts b7 m nx q k buf q3 hqk
    by_cases hn : nx < ts.length
    · obtain ⟨t, g1, g2⟩ := away hfar hn
      clear away hfar
      repeat (any_goals (first | refine aw_to (hin _ (fun env' he => then_nor (aw_less he ?_))) (EnvLe.of_list (by intro x hx; simp only [List.mem_cons, List.not_mem_nil, or_false] at hx; (repeat (rcases hx with rfl | hx; (focus rfl))); (try (subst hx; rfl)))) (by (repeat (first | exact Picks.nil _ | (apply Picks.cons; focus ((repeat (first | exact Pick.here _ | apply Pick.there)); (first | done | fail)))))) | refine s_at ?_ | refine s_skip ?_ | refine s_off ?_ | refine s_offn ?_ | refine s_move ?_ | refine s_assign ?_ | refine s_load ?_ | refine s_loade ?_ | refine s_loadd ?_ | refine s_pick1 ?_ | refine s_pick0 ?_ | refine s_pure ?_ | refine s_nil ?_ | refine aw_seq ?_ | refine aw_seqr ?_ | refine aw_block ?_ | refine aw_true ?_ | refine aw_false ?_ | refine s_alloc (fun _ => ?_) | refine s_allocd (fun _ => ?_) | refine s_box (fun _ => ?_) | refine s_box1 (fun _ => ?_) | refine s_store' ?_ | (refine s_cmp (fun h => ?_) (fun h => ?_) <;> try (exfalso; omega)) | refine s_elem nx g1 ?_ | refine s_index q hx ?_ | refine s_call0 hcb ?_ | refine s_call0 hcm ?_))
      refine d_end fun env' he => ?_
      (repeat (first | refine inb_nor ?_ | refine then_nor ?_))
      exact hQ (q + k) nx _ cs' hk1 hqk q2 hbk h2 q5 _ (EnvLe.of_eq he (EnvLe.of_list (by intro x hx; simp only [List.mem_cons, List.not_mem_nil, or_false] at hx; (repeat (rcases hx with rfl | hx; (focus rfl))); (try (subst hx; rfl)))))
    · clear away hfar
      repeat (any_goals (first | refine aw_to (hin _ (fun env' he => then_nor (aw_less he ?_))) (EnvLe.of_list (by intro x hx; simp only [List.mem_cons, List.not_mem_nil, or_false] at hx; (repeat (rcases hx with rfl | hx; (focus rfl))); (try (subst hx; rfl)))) (by (repeat (first | exact Picks.nil _ | (apply Picks.cons; focus ((repeat (first | exact Pick.here _ | apply Pick.there)); (first | done | fail)))))) | refine s_at ?_ | refine s_skip ?_ | refine s_off ?_ | refine s_offn ?_ | refine s_move ?_ | refine s_assign ?_ | refine s_load ?_ | refine s_loade ?_ | refine s_loadd ?_ | refine s_pick1 ?_ | refine s_pick0 ?_ | refine s_pure ?_ | refine s_nil ?_ | refine aw_seq ?_ | refine aw_seqr ?_ | refine aw_block ?_ | refine aw_true ?_ | refine aw_false ?_ | refine s_alloc (fun _ => ?_) | refine s_allocd (fun _ => ?_) | refine s_box (fun _ => ?_) | refine s_box1 (fun _ => ?_) | refine s_store' ?_ | (refine s_cmp (fun h => ?_) (fun h => ?_) <;> try (exfalso; omega)) | refine s_index q hx ?_ | refine s_call0 hcb ?_ | refine s_call0 hcm ?_))
      refine d_end fun env' he => ?_
      (repeat (first | refine inb_nor ?_ | refine then_nor ?_))
      exact hQ (q + k) nx _ cs' hk1 hqk q2 hbk h2 q5 _ (EnvLe.of_eq he (EnvLe.of_list (by intro x hx; simp only [List.mem_cons, List.not_mem_nil, or_false] at hx; (repeat (rcases hx with rfl | hx; (focus rfl))); (try (subst hx; rfl)))))
  · have hk := Lex.step_tok h1
    have hkl : (x :: a.data.toList.drop (q + 1)).length = a.size - q := by rw [← hd, List.length_drop, size_l]
    have hdk : (x :: a.data.toList.drop (q + 1)).drop k = a.data.toList.drop (q + k) := by rw [← hd, List.drop_drop]
    rw [hdk] at h2
    have hn : nx < ts.length := by
      rcases Nat.lt_or_ge nx ts.length with h | h
      · exact h
      · rw [List.drop_of_length_le h] at h3; cases h3
    rw [List.drop_eq_getElem_cons hn] at h3
    injection h3 with h3 h4
    have g1 : (ts.map etk)[nx]? = some (.ag [i64 kd, i64 n, str (bs s), i64 (q : Int), i64 ((q + k : Nat) : Int)]) := by rw [List.getElem?_map, List.getElem?_eq_getElem hn, h3]; rfl
    rw [← h4] at h2
    clear away
    repeat (any_goals (first | refine s_at ?_ | refine s_skip ?_ | refine s_off ?_ | refine s_offn ?_ | refine s_move ?_ | refine s_assign ?_ | refine s_load ?_ | refine s_loade ?_ | refine s_loadd ?_ | refine s_pick1 ?_ | refine s_pick0 ?_ | refine s_pure ?_ | refine s_nil ?_ | refine aw_seq ?_ | refine aw_seqr ?_ | refine aw_block ?_ | refine aw_true ?_ | refine aw_false ?_ | refine s_alloc (fun _ => ?_) | refine s_allocd (fun _ => ?_) | refine s_box (fun _ => ?_) | refine s_box1 (fun _ => ?_) | refine s_store' ?_ | (refine s_cmp (fun h => ?_) (fun h => ?_) <;> try (exfalso; omega)) | refine s_elem nx g1 ?_ | refine s_add ?_))
    refine d_end fun env' he => ?_
    (repeat (first | refine inb_nor ?_ | refine then_nor ?_))
    exact hQ (q + k) (nx + 1) buf cr (by omega) (by omega) (by omega) q3 h2 q5 _ (EnvLe.of_eq he (EnvLe.of_list (by intro x hx; simp only [List.mem_cons, List.not_mem_nil, or_false] at hx; (repeat (rcases hx with rfl | hx; (focus rfl))); (try (subst hx; rfl)))))
set_option maxRecDepth 20000 in set_option maxHeartbeats 4000000 in
theorem sim_RStrip (a : ByteArray) (ha : Small a) : Sim Tryz.prog I 34 [str a] [] (fun o τ => o = .ret (stripV (Lex.stripL a.data.toList)) ∧ τ = []) := by
  have ha' : a.size ≤ 140737488351232 := ha
  have hll := size_l a
  have hax : a.size ≤ maxLen := by unfold maxLen; omega
  have htk := sim_rtokens I a ha
  rcases hr : Lex.tokensL a.data.toList with ⟨ts, p, e⟩
  rw [hr] at htk
  unfold toksV at htk
  dsimp only at htk
  refine sim_body Tryz.func34 rfl rfl rfl ?_
  by_cases he : e = 0
  · subst he
    obtain ⟨rfl, hl2, hl3, cs, hcut⟩ := Lex.tokens_done hr
    rw [stripL_done a (by omega) ts cs hcut (by omega)]
    unfold stripV
    dsimp only
    generalize hres : Lex.blankAll a.data.toList cs = res
    have hml : (ts.map etk).length = ts.length := List.length_map ..
    repeat (any_goals (first | refine s_at ?_ | refine s_skip ?_ | refine s_off ?_ | refine s_offn ?_ | refine s_move ?_ | refine s_assign ?_ | refine s_load ?_ | refine s_loade ?_ | refine s_loadd ?_ | refine s_pick1 ?_ | refine s_pick0 ?_ | refine s_pure ?_ | refine s_nil ?_ | refine aw_seq ?_ | refine aw_seqr ?_ | refine aw_block ?_ | refine aw_true ?_ | refine aw_false ?_ | refine s_alloc (fun _ => ?_) | refine s_allocd (fun _ => ?_) | refine s_box (fun _ => ?_) | refine s_box1 (fun _ => ?_) | refine s_store' ?_ | (refine s_cmp (fun h => ?_) (fun h => ?_) <;> try (exfalso; omega)) | refine s_call0 htk ?_ | refine s_bytes hax (fun _ _ => ?_)))
    rename_i b7 m
    refine aw_loop (fun s : Nat × Nat × Lex.Bytes => [(0, str a), (4, .sl 5 (ts.map etk)), (7, .sc (.slice (some ⟨b7, 0, none⟩) a.size (a.size + m))), (8, i64 (s.2.1 : Int)), (9, i64 (s.1 : Int))])
      (fun s => [.box b7 (byL (s.2.2 ++ List.replicate m 0)) 5])
      (fun s => s.1 ≤ a.size ∧ s.2.1 ≤ ts.length ∧ s.2.2.length = a.size ∧ ∃ cr, Lex.Runs (a.data.toList.drop s.1) s.1 (ts.drop s.2.1) cr [] a.data.toList.length ∧ Lex.blankAll s.2.2 cr = res) (fun s => a.size - s.1)
      (0, 0, a.data.toList) ⟨Nat.zero_le _, Nat.zero_le _, hll, cs, Lex.cut_done hcut, hres⟩ (EnvLe.of_list (by intro x hx; simp only [List.mem_cons, List.not_mem_nil, or_false] at hx; (repeat (rcases hx with rfl | hx; (focus rfl))); (try (subst hx; rfl)))) [] (List.Perm.refl _) ?_
    rintro ⟨q, nx, buf⟩ ⟨q1, q2, q3, cr, q4, q5⟩
    dsimp only at q1 q2 q3 q4 q5 ⊢
    by_cases hq : q < a.size
    · refine strip_round I a ha ts hl3 res b7 m q nx buf cr hq q2 q3 q4 q5 _ (fun q' nx' buf' cr' h1 h2 h3 h4 h5 h6 env' he => then_nor ⟨(q', nx', buf'), [], ⟨h2, h3, h4, cr', h5, h6⟩, by dsimp only; omega, he, ?_⟩)
      rw [List.append_nil]
    · obtain rfl : q = a.size := by omega
      have hbuf : buf = res := by
        rw [drop_end (Nat.le_refl _)] at q4
        rcases runs_inv q4 with ⟨h1, _, rfl, h2⟩ | ⟨h1, h2⟩ | ⟨k, cs', h1, rfl, h2⟩ | ⟨kd, n, s, k, ts', h1, h3, h2⟩
        · exact q5
        · cases h1
        · cases h1
        · cases h1
      subst hbuf
      repeat (any_goals (first | refine s_at ?_ | refine s_skip ?_ | refine s_off ?_ | refine s_offn ?_ | refine s_move ?_ | refine s_assign ?_ | refine s_load ?_ | refine s_loade ?_ | refine s_loadd ?_ | refine s_pick1 ?_ | refine s_pick0 ?_ | refine s_pure ?_ | refine s_nil ?_ | refine aw_seq ?_ | refine aw_seqr ?_ | refine aw_block ?_ | refine aw_true ?_ | refine aw_false ?_ | refine s_alloc (fun _ => ?_) | refine s_allocd (fun _ => ?_) | refine s_box (fun _ => ?_) | refine s_box1 (fun _ => ?_) | refine s_store' ?_ | (refine s_cmp (fun h => ?_) (fun h => ?_) <;> try (exfalso; omega))))
      refine aw_exit ?_; (repeat refine then_exit ?_); refine inb_exit ?_; refine then_nor ?_
      repeat (any_goals (first | refine s_at ?_ | refine s_skip ?_ | refine s_off ?_ | refine s_offn ?_ | refine s_move ?_ | refine s_assign ?_ | refine s_load ?_ | refine s_loade ?_ | refine s_loadd ?_ | refine s_pick1 ?_ | refine s_pick0 ?_ | refine s_pure ?_ | refine s_nil ?_ | refine aw_seq ?_ | refine aw_seqr ?_ | refine aw_block ?_ | refine aw_true ?_ | refine aw_false ?_ | refine s_alloc (fun _ => ?_) | refine s_allocd (fun _ => ?_) | refine s_box (fun _ => ?_) | refine s_box1 (fun _ => ?_) | refine s_store' ?_ | refine s_cellsText (l := buf) (l2 := List.replicate m 0) q3.symm (by (repeat (first | exact Pick.here _ | apply Pick.there))) ?_))
      refine aw_ret ?_; (repeat (first | refine then_ret ?_ | refine inb_ret ?_))
      refine post_of ⟨?_, rfl⟩ (by (repeat' (first | exact ResVs.nil | apply ResVs.cons | (apply ResV.tmp; first | exact (rfl : _ = AV.sc _) | exact (rfl : _ = AV.ag _) | exact (rfl : _ = AV.sl _ _) | exact (rfl : _ = AV.os _ _ _) | exact (rfl : _ = AV.fn _ _ _)) | (apply ResV.cells; rfl; apply Pick.mem; (repeat (first | exact Pick.here _ | apply Pick.there)); rfl; rfl; rfl; (first | rfl | simp only [ones, List.all_cons, List.all_nil, Bool.and_true, one_int, one_bool, one_str, one_ptr, one_slice, one_sl, one_os, *])) | (apply ResV.cell; rfl; apply Pick.mem; (repeat (first | exact Pick.here _ | apply Pick.there)); rfl; rfl; rfl)))) (by (repeat (first | exact Picks.nil _ | (apply Picks.cons; focus ((repeat (first | exact Pick.here _ | apply Pick.there)); (first | done | fail))))))
      rfl
  · have hstrip : Lex.stripL a.data.toList = ([], e) := by
      unfold Lex.tokensL at hr
      split at hr
      · rename_i h
        injection hr with _ hr
        injection hr with _ hr
        subst hr
        exact stripL_long a (by omega)
      · rename_i h
        split at hr
        · rename_i p' hc
          injection hr with _ hr
          injection hr with _ hr
          subst hr
          exact stripL_err a (by omega) p' hc
        · rename_i ts' cs' hc
          split at hr
          · rename_i h3
            injection hr with _ hr
            injection hr with _ hr
            subst hr
            exact stripL_many a (by omega) ts' cs' hc h3
          · injection hr with _ hr
            injection hr with _ hr
            exact absurd hr.symm he
    rw [hstrip]
    unfold stripV
    repeat (any_goals (first | refine s_at ?_ | refine s_skip ?_ | refine s_off ?_ | refine s_offn ?_ | refine s_move ?_ | refine s_assign ?_ | refine s_load ?_ | refine s_loade ?_ | refine s_loadd ?_ | refine s_pick1 ?_ | refine s_pick0 ?_ | refine s_pure ?_ | refine s_nil ?_ | refine aw_seq ?_ | refine aw_seqr ?_ | refine aw_block ?_ | refine aw_true ?_ | refine aw_false ?_ | refine s_alloc (fun _ => ?_) | refine s_allocd (fun _ => ?_) | refine s_box (fun _ => ?_) | refine s_box1 (fun _ => ?_) | refine s_store' ?_ | (refine s_cmp (fun h => ?_) (fun h => ?_) <;> try (exfalso; omega)) | refine s_call0 htk ?_))
    refine aw_ret ?_; (repeat (first | refine then_ret ?_ | refine inb_ret ?_))
    refine post_of ⟨?_, rfl⟩ (by (repeat' (first | exact ResVs.nil | apply ResVs.cons | (apply ResV.tmp; first | exact (rfl : _ = AV.sc _) | exact (rfl : _ = AV.ag _) | exact (rfl : _ = AV.sl _ _) | exact (rfl : _ = AV.os _ _ _) | exact (rfl : _ = AV.fn _ _ _)) | (apply ResV.cells; rfl; apply Pick.mem; (repeat (first | exact Pick.here _ | apply Pick.there)); rfl; rfl; rfl; (first | rfl | simp only [ones, List.all_cons, List.all_nil, Bool.and_true, one_int, one_bool, one_str, one_ptr, one_slice, one_sl, one_os, *])) | (apply ResV.cell; rfl; apply Pick.mem; (repeat (first | exact Pick.here _ | apply Pick.there)); rfl; rfl; rfl)))) (by (repeat (first | exact Picks.nil _ | (apply Picks.cons; focus ((repeat (first | exact Pick.here _ | apply Pick.there)); (first | done | fail))))))
    rfl
end
end Go.Proofs.YtglgppkjgodlkaaGreatDoor.J
