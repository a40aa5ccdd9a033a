/- The reader of expressions: what an expression begins with. Conditions: none. -/
import Derived.Test.YtjcocblohiglbaaGreatDoorB1
namespace Go.Proofs.YtjcocblohiglbaaGreatDoor
open Go.Dp
set_option linter.unusedVariables false
set_option linter.unusedSimpArgs false
/-- An operation by its first part. -/
def look (A : List (ByteArray × Mx)) (s : ByteArray) : Option Mx := (A.find? fun p => decide (p.1 = s)).map (·.2)
theorem look_some {A : List (ByteArray × Mx)} {s : ByteArray} {m : Mx} (h : look A s = some m) : ∃ j : Nat, (kv A)[j]? = some (Value.string s, emix m) ∧ (s, m) ∈ A := by
  unfold look at h
  cases hf : A.find? (fun p => decide (p.1 = s)) with
  | none => rw [hf] at h; cases h
  | some q =>
    rw [hf] at h
    cases h
    have h1 := List.find?_some hf
    have h2 := List.mem_of_find?_eq_some hf
    obtain ⟨j, hj⟩ := List.mem_iff_getElem?.1 h2
    have h3 : q.1 = s := by simpa using h1
    exact ⟨j, by rw [kv, List.getElem?_map, hj, ← h3]; rfl, by rw [← h3]; exact h2⟩
theorem look_none {A : List (ByteArray × Mx)} {s : ByteArray} (h : look A s = none) : ∀ p, p ∈ kv A → p.1 ≠ Value.string s := by
  unfold look at h
  rw [Option.map_eq_none_iff, List.find?_eq_none] at h
  intro p hp
  obtain ⟨q, hq, rfl⟩ := List.mem_map.1 hp
  intro e
  injection e with e
  exact h q hq (by simpa using e)
theorem kv_str (A : List (ByteArray × Mx)) : ∀ p, p ∈ kv A → IsStr p.1 := by
  intro p hp
  obtain ⟨q, hq, rfl⟩ := List.mem_map.1 hp
  exact ⟨_, rfl⟩
theorem keyL : KeyL Tryz.prog 9 IsStr := keyL_str (by kernel_rfl)
section
variable (I : World → Prop) (p bA bF : Nat) (tx : ByteArray) (T : List Tk) (last : Nat) (A F : List (ByteArray × Mx))
/-- Arguments, with "," between. -/
def sArgs (up : Int → Nat → SRes (Nd × Int)) : Nat → List Nd → Nat → SRes (List Nd)
  | 0, _, pos => .bad pos
  | n + 1, acc, pos => (up 0 pos).bnd fun x q => if isT (nxt T last q) ⟨#[44]⟩ = true then sArgs up n (acc ++ [x.1]) (q + 1) else .ok (acc ++ [x.1]) q
theorem sArgs_wf (up : Int → Nat → SRes (Nd × Int)) (wup : ∀ n q, q ≤ last → (up n q).wf last (q + 1)) : ∀ (n : Nat) (acc : List Nd) (pos : Nat), pos ≤ last → (sArgs T last up n acc pos).wf last pos
  | 0, acc, pos, _ => trivial
  | n + 1, acc, pos, hp => by
    rw [sArgs]
    refine swf_bnd (wup 0 pos hp) (fun x q h1 h2 => ?_)
    split
    · rename_i h
      have := nxt_isT h
      exact swf_le (sArgs_wf up wup n _ (q + 1) (by omega)) (by omega)
    · exact ⟨by omega, h2⟩
def sFirst (up : Int → Nat → SRes (Nd × Int)) (n : Int) (pos : Nat) : SRes (Nd × Int) :=
  if (nxt T last pos).kind = 3 then .ok (.mk 50 0 (itoaB (nxt T last pos).n) [] (nxt T last pos).b (nxt T last pos).e, 10) (pos + 1)
  else if isT (nxt T last pos) ⟨#[40]⟩ = true then
    (up 0 (pos + 1)).bnd fun x q => if isT (nxt T last q) ⟨#[41]⟩ = true then .ok (.mk x.1.kind x.1.n x.1.s x.1.l (nxt T last pos).b (nxt T last q).e, 10) (q + 1) else .bad q
  else if partT (nxt T last pos) = true then
    match look F (nxt T last pos).s with
    | some op => if strength op < n then .bad pos else (sRest T last up op [] (nxt T last pos).b (pos + 1)).bnd fun x q => .ok (x, strength op) q
    | none =>
      if isT (nxt T last (pos + 1)) ⟨#[40]⟩ = true then
        (sArgs T last up (last + 1) [] (pos + 2)).bnd fun l q => if isT (nxt T last q) ⟨#[41]⟩ = true then .ok (.mk 50 0 (nxt T last pos).s l (nxt T last pos).b (nxt T last q).e, 10) (q + 1) else .bad q
      else .ok (.mk 50 0 (nxt T last pos).s [] (nxt T last pos).b (nxt T last pos).e, 10) (pos + 1)
  else .bad pos
theorem sFirst_wf (up : Int → Nat → SRes (Nd × Int)) (wup : ∀ n q, q ≤ last → (up n q).wf last (q + 1)) (n : Int) (pos : Nat) (hp : pos ≤ last) : (sFirst T last F up n pos).wf last (pos + 1) := by
  rw [sFirst]
  split
  · rename_i h
    have := nxt_lt (T := T) (last := last) (pos := pos) (by omega)
    exact ⟨Nat.le_refl _, by omega⟩
  · split
    · rename_i h
      have := nxt_isT h
      refine swf_bnd (wup 0 (pos + 1) (by omega)) (fun x q h1 h2 => ?_)
      split
      · rename_i h
        have := nxt_isT h
        exact ⟨by omega, by omega⟩
      · trivial
    · split
      · rename_i h
        have h0 := nxt_part h
        split
        · split
          · trivial
          · exact swf_bnd (sRest_wf T last up wup _ _ _ (pos + 1) (by omega)) (fun x q h1 h2 => ⟨h1, h2⟩)
        · split
          · rename_i h
            have := nxt_isT h
            refine swf_bnd (sArgs_wf T last up wup _ _ (pos + 2) (by omega)) (fun l q h1 h2 => ?_)
            split
            · rename_i h
              have := nxt_isT h
              exact ⟨by omega, by omega⟩
            · trivial
          · exact ⟨Nat.le_refl _, by omega⟩
      · trivial
set_option maxRecDepth 20000 in set_option maxHeartbeats 4000000 in
theorem sim_first (hs : SH I T last A F) (up : Int → Nat → SRes (Nd × Int)) (wup : ∀ n q, q ≤ last → (up n q).wf last (q + 1)) (n : Int) (pos : Nat) (hp : pos ≤ last)
    (hup : ∀ n q, pos < q → q ≤ last → SimS I p bA bF tx T last A F 74 [ptr p, i64 n] [] enU (up n q) q) :
    SimS I p bA bF tx T last A F 85 [ptr p, i64 n] [] enU (sFirst T last F up n pos) pos := by
  have hT := hs.fit
  have hT' : T.length ≤ 1000000 := hT
  have hla := hs.last
  have g0 := snext I p bA bF tx T last pos hT hla hp
  generalize ht : nxt T last pos = t at g0
  have f1 := sim_isT I t ⟨#[40]⟩
  have f2 := sim_isPart I t
  unfold SimS Slv
  rw [sFirst, ht, List.nil_append]
  by_cases cN : t.kind = 3
  · rw [if_pos cN]
    have hlt := nxt_lt (T := T) (last := last) (pos := pos) (by rw [ht]; omega)
    have hmem : t ∈ T := by rw [← ht, nxt, if_pos hlt]; exact tokAt_mem (by omega)
    have hn := hs.nums t hmem cN
    have gI := hs.itoa t.n hn.1 hn.2
    refine sim_body' Tryz.func85 rfl rfl rfl ?_
    repeat (any_goals (first | refine s_at ?_ | refine s_move ?_ | refine s_assign ?_ | refine s_load ?_ | refine s_pure ?_ | refine s_nil ?_ | refine aw_seq ?_ | refine aw_seqr ?_ | refine aw_block ?_ | refine aw_true ?_ | refine s_alloc (fun _ => ?_) | refine s_store' ?_ | (refine s_cmp (fun h => ?_) (fun h => ?_) <;> try (exfalso; omega)) | refine s_callr g0 ?_ | refine s_add ?_ | refine s_call0 gI ?_))
    refine aw_ret ?_; (repeat (first | refine then_ret ?_ | refine inb_ret ?_))
    refine post_of ⟨_, .ret _ _ ?_, rfl, rfl⟩ rvs pks
    exact .tu _ _ (.cons _ _ _ _ (sub_enc (.nil 6)) (Subs.refl _))
  · rw [if_neg cN]
    cases c1 : isT t ⟨#[40]⟩ with
    | true =>
      rw [c1] at f1
      rw [if_pos rfl]
      have hlt := nxt_isT (T := T) (last := last) (pos := pos) (by rw [ht]; exact c1)
      have g1 := hup 0 (pos + 1) (by omega) (by omega)
      have w1 := wup 0 (pos + 1) (by omega)
      unfold SimS Slv at g1
      cases h1 : up 0 (pos + 1) with
      | bad q =>
        rw [h1] at g1
        dsimp only [SRes.bnd, List.nil_append] at g1 ⊢
        refine sim_body' Tryz.func85 rfl rfl rfl ?_
        repeat (any_goals (first | refine s_at ?_ | refine s_move ?_ | refine s_assign ?_ | refine s_load ?_ | refine s_pure ?_ | refine s_nil ?_ | refine aw_seq ?_ | refine aw_seqr ?_ | refine aw_block ?_ | refine aw_true ?_ | refine aw_false ?_ | refine s_alloc (fun _ => ?_) | refine s_store' ?_ | (refine s_cmp (fun h => ?_) (fun h => ?_) <;> try (exfalso; omega)) | refine s_callr g0 ?_ | refine s_add ?_ | refine s_call0 f1 ?_ | (refine s_call g1 (fun x τ' h => by cases h.1) (fun c τ' h env' => ?_); obtain ⟨h1, _, rfl⟩ := h; cases h1)))
        (repeat (first | refine then_pan ?_ | refine inb_pan ?_)); exact post_pan ⟨_, .pan _, rfl, _, rfl⟩ pks
      | ok x q =>
        obtain ⟨x, pr⟩ := x
        rw [h1] at g1 w1
        obtain ⟨w2, w3⟩ := w1
        dsimp only [SRes.bnd, enU, List.nil_append] at g1 ⊢
        rw [enc_ag] at g1
        have g2 := snext I p bA bF tx T last q hT hla w3
        cases c2 : isT (nxt T last q) ⟨#[41]⟩ with
        | true =>
          rw [if_pos rfl]
          have hlt2 := nxt_isT c2
          have g3 := smust_yes I p bA bF tx T last q hT hla w3 ⟨#[41]⟩ c2
          refine sim_body' Tryz.func85 rfl rfl rfl ?_
          repeat (any_goals (first | refine s_at ?_ | refine s_move ?_ | refine s_assign ?_ | refine s_load ?_ | refine s_loadd ?_ | refine s_pure ?_ | refine s_nil ?_ | refine aw_seq ?_ | refine aw_seqr ?_ | refine aw_block ?_ | refine aw_true ?_ | refine aw_false ?_ | refine s_alloc (fun _ => ?_) | refine s_store' ?_ | (refine s_cmp (fun h => ?_) (fun h => ?_) <;> try (exfalso; omega)) | refine s_callr g0 ?_ | refine s_callrd g2 ?_ | refine s_drawn 9 [6, 8] ?_ | refine s_add ?_ | refine s_call0 f1 ?_ | (refine s_call g1 (fun x τ' h => ?_) (fun c τ' h => by cases h.1); obtain ⟨h1, rfl⟩ := h; cases h1) | (refine s_call g3 (fun x τ' h => ?_) (fun c τ' h => by cases h.1); obtain ⟨h1, rfl⟩ := h; cases h1)))
          refine aw_ret ?_; (repeat (first | refine then_ret ?_ | refine inb_ret ?_))
          refine post_of ⟨_, .ret _ _ ?_, rfl, rfl⟩ rvs pks
          exact .tu _ _ (.cons _ _ _ _ (sub_enc (.refl _)) (Subs.refl _))
        | false =>
          rw [if_neg (by simp)]
          have g3 := smust_no I p bA bF tx T last q hT hla w3 ⟨#[41]⟩ c2
          refine sim_body' Tryz.func85 rfl rfl rfl ?_
          repeat (any_goals (first | refine s_at ?_ | refine s_move ?_ | refine s_assign ?_ | refine s_load ?_ | refine s_loadd ?_ | refine s_pure ?_ | refine s_nil ?_ | refine aw_seq ?_ | refine aw_seqr ?_ | refine aw_block ?_ | refine aw_true ?_ | refine aw_false ?_ | refine s_alloc (fun _ => ?_) | refine s_store' ?_ | (refine s_cmp (fun h => ?_) (fun h => ?_) <;> try (exfalso; omega)) | refine s_callr g0 ?_ | refine s_callrd g2 ?_ | refine s_drawn 9 [6, 8] ?_ | refine s_add ?_ | refine s_call0 f1 ?_ | (refine s_call g1 (fun x τ' h => ?_) (fun c τ' h => by cases h.1); obtain ⟨h1, rfl⟩ := h; cases h1) | (refine s_call g3 (fun x τ' h => by cases h.1) (fun c τ' h env' => ?_); obtain ⟨h1, rfl⟩ := h; cases h1)))
          (repeat (first | refine then_pan ?_ | refine inb_pan ?_)); exact post_pan ⟨_, .pan _, rfl, _, rfl⟩ pks
    | false =>
      rw [c1] at f1
      rw [if_neg (by simp)]
      cases cP : partT t with
      | false =>
        rw [cP] at f2
        rw [if_neg (by simp)]
        refine sim_body' Tryz.func85 rfl rfl rfl ?_
        repeat (any_goals (first | refine s_at ?_ | refine s_move ?_ | refine s_assign ?_ | refine s_load ?_ | refine s_pure ?_ | refine s_nil ?_ | refine aw_seq ?_ | refine aw_seqr ?_ | refine aw_block ?_ | refine aw_true ?_ | refine aw_false ?_ | refine s_alloc (fun _ => ?_) | refine s_store' ?_ | (refine s_cmp (fun h => ?_) (fun h => ?_) <;> try (exfalso; omega)) | refine s_callr g0 ?_ | refine s_call0 f1 ?_ | refine s_call0 f2 ?_ | (refine s_call (swrong I p bA bF tx T last pos hT hla hp) (fun x τ' h => by cases h.1) (fun c τ' h env' => ?_); obtain ⟨h1, rfl⟩ := h; cases h1)))
        (repeat (first | refine then_pan ?_ | refine inb_pan ?_)); exact post_pan ⟨_, .pan _, rfl, _, rfl⟩ pks
      | true =>
        rw [cP] at f2
        rw [if_pos rfl]
        have hlt := nxt_part (T := T) (last := last) (pos := pos) (by rw [ht]; exact cP)
        cases hlk : look F t.s with
        | some op =>
          dsimp only
          obtain ⟨j, hj, hmem⟩ := look_some hlk
          have hop := hs.first _ hmem
          have gS := sim_strength I op
          unfold emix emixL at hj gS
          by_cases cS : strength op < n
          · rw [if_pos cS]
            refine sim_body' Tryz.func85 rfl rfl rfl ?_
            repeat (any_goals (first | refine s_at ?_ | refine s_skip ?_ | refine s_move ?_ | refine s_assign ?_ | refine s_load ?_ | refine s_loadd ?_ | refine s_pure ?_ | refine s_nil ?_ | refine aw_seq ?_ | refine aw_seqr ?_ | refine aw_block ?_ | refine aw_true ?_ | refine aw_false ?_ | refine s_alloc (fun _ => ?_) | refine s_allocd (fun _ => ?_) | refine s_store' ?_ | (refine s_cmp (fun h => ?_) (fun h => ?_) <;> try (exfalso; omega)) | refine s_callr g0 ?_ | refine s_call0 f1 ?_ | refine s_call0 f2 ?_ | refine s_drawn 14 [12] ?_ | refine s_lookup keyL (kv_str F) hj ?_ | refine s_call0 gS ?_ | (refine s_call (swrong I p bA bF tx T last pos hT hla hp) (fun x τ' h => by cases h.1) (fun c τ' h env' => ?_); obtain ⟨h1, rfl⟩ := h; cases h1)))
            (repeat (first | refine then_pan ?_)); exact post_pan ⟨_, .pan _, rfl, _, rfl⟩ pks
          · rw [if_neg cS]
            have gR := sim_niltok (a1 := [ptr p, emix op]) (a2 := [i64 (t.b : Int)]) (τ := Slv p bA bF tx T last A F (pos + 1)) 27 6 (fun k => sim_rest I p bA bF tx T last A F hs up wup op hop k [] (by simp) (t.b : Int) (pos + 1) (by omega) (by omega) (fun n q h1 h2 => hup n q (by omega) h2))
            unfold emix emixL Slv at gR
            dsimp only [List.cons_append, List.nil_append] at gR
            cases h1 : sRest T last up op [] (t.b : Int) (pos + 1) with
            | bad q =>
              rw [h1] at gR
              dsimp only [SRes.bnd] at gR ⊢
              refine sim_body' Tryz.func85 rfl rfl rfl ?_
              repeat (any_goals (first | refine s_at ?_ | refine s_skip ?_ | refine s_move ?_ | refine s_assign ?_ | refine s_load ?_ | refine s_loadd ?_ | refine s_pure ?_ | refine s_nil ?_ | refine aw_seq ?_ | refine aw_seqr ?_ | refine aw_block ?_ | refine aw_true ?_ | refine aw_false ?_ | refine s_alloc (fun _ => ?_) | refine s_allocd (fun _ => ?_) | refine s_store' ?_ | (refine s_cmp (fun h => ?_) (fun h => ?_) <;> try (exfalso; omega)) | refine s_callr g0 ?_ | refine s_call0 f1 ?_ | refine s_call0 f2 ?_ | refine s_drawn 14 [12] ?_ | refine s_drawc [0, 1, 2, 3, 5, 4, 6, 7, 8] [4, 7] ?_ | refine s_lookup keyL (kv_str F) hj ?_ | refine s_call0 gS ?_ | refine s_add ?_ | (refine s_call gR (fun x τ' h => by cases h.1) (fun c τ' h env' => ?_); obtain ⟨h1, _, rfl⟩ := h; cases h1)))
              (repeat (first | refine then_pan ?_)); exact post_pan ⟨_, .pan _, rfl, _, rfl⟩ pks
            | ok x q =>
              rw [h1] at gR
              dsimp only [SRes.bnd, enU] at gR ⊢
              rw [enc_ag] at gR
              refine sim_body' Tryz.func85 rfl rfl rfl ?_
              repeat (any_goals (first | refine s_at ?_ | refine s_skip ?_ | refine s_move ?_ | refine s_assign ?_ | refine s_load ?_ | refine s_loadd ?_ | refine s_pure ?_ | refine s_nil ?_ | refine aw_seq ?_ | refine aw_seqr ?_ | refine aw_block ?_ | refine aw_true ?_ | refine aw_false ?_ | refine s_alloc (fun _ => ?_) | refine s_allocd (fun _ => ?_) | refine s_store' ?_ | (refine s_cmp (fun h => ?_) (fun h => ?_) <;> try (exfalso; omega)) | refine s_callr g0 ?_ | refine s_call0 f1 ?_ | refine s_call0 f2 ?_ | refine s_drawn 14 [12] ?_ | refine s_drawc [0, 1, 2, 3, 5, 4, 6, 7, 8] [4, 7] ?_ | refine s_lookup keyL (kv_str F) hj ?_ | refine s_call0 gS ?_ | refine s_add ?_ | (refine s_call gR (fun x τ' h => ?_) (fun c τ' h => by cases h.1); obtain ⟨h1, rfl⟩ := h; cases h1)))
              refine aw_ret ?_; (repeat (first | refine then_ret ?_))
              refine post_of ⟨_, .ret _ _ ?_, rfl, rfl⟩ rvs pks
              rw [enc_ag]
              exact .refl _
        | none =>
          dsimp only
          have hn := look_none hlk
          have g2 := snext I p bA bF tx T last (pos + 1) hT hla (by omega)
          generalize ht2 : nxt T last (pos + 1) = t2 at g2
          have f3 := sim_isT I t2 ⟨#[40]⟩
          cases c3 : isT t2 ⟨#[40]⟩ with
          | false =>
            rw [c3] at f3
            rw [if_neg (by simp)]
            refine sim_body' Tryz.func85 rfl rfl rfl ?_
            repeat (any_goals (first | refine s_at ?_ | refine s_skip ?_ | refine s_move ?_ | refine s_assign ?_ | refine s_load ?_ | refine s_loadd ?_ | refine s_pure ?_ | refine s_nil ?_ | refine aw_seq ?_ | refine aw_seqr ?_ | refine aw_block ?_ | refine aw_false ?_ | refine s_alloc (fun _ => ?_) | refine s_allocd (fun _ => ?_) | refine s_store' ?_ | (refine s_cmp (fun h => ?_) (fun h => ?_) <;> try (exfalso; omega)) | refine s_callr g0 ?_ | refine s_callr g2 ?_ | refine s_call0 f1 ?_ | refine s_call0 f2 ?_ | refine s_call0 f3 ?_ | refine s_drawn 14 [12] ?_ | refine s_lookup0 keyL (kv_str F) ⟨_, rfl⟩ hn ?_ | refine s_add ?_))
            refine aw_ret ?_; (repeat (first | refine then_ret ?_))
            refine post_of ⟨_, .ret _ _ ?_, rfl, rfl⟩ rvs pks
            exact .tu _ _ (.cons _ _ _ _ (sub_enc (.nil 6)) (Subs.refl _))
          | true =>
            rw [c3] at f3
            rw [if_pos rfl]
            have hlt2 := nxt_isT (T := T) (last := last) (pos := pos + 1) (by rw [ht2]; exact c3)
            generalize hres : sArgs T last up (last + 1) [] (pos + 2) = res
            refine sim_body' Tryz.func85 rfl rfl rfl ?_
            repeat (any_goals (first | refine s_at ?_ | refine s_skip ?_ | refine s_move ?_ | refine s_assign ?_ | refine s_load ?_ | refine s_loadd ?_ | refine s_pure ?_ | refine s_nil ?_ | refine aw_seq ?_ | refine aw_seqr ?_ | refine aw_block ?_ | refine aw_true ?_ | refine aw_false ?_ | refine s_alloc (fun _ => ?_) | refine s_allocd (fun _ => ?_) | refine s_store' ?_ | (refine s_cmp (fun h => ?_) (fun h => ?_) <;> try (exfalso; omega)) | refine s_callr g0 ?_ | refine s_callr g2 ?_ | refine s_call0 f1 ?_ | refine s_call0 f2 ?_ | refine s_call0 f3 ?_ | refine s_drawn 14 [12] ?_ | refine s_lookup0 keyL (kv_str F) ⟨_, rfl⟩ hn ?_ | refine s_add ?_))
            rename_i b4 b6 b7 b10
            refine aw_boxtok 3 27 6 (b := b7) (by (repeat (first | exact Pick.here _ | apply Pick.there))) rfl (fun j => ?_)
            refine aw_loop (fun s : Nat × List Nd × Nat => [(0, ptr p), (4, ptr b4), (6, ptr b6), (7, ptr b7)])
              (fun s => [.box b7 [i64 50, i64 0, str t.s, .os j 6 (encs s.2.1), i64 (t.b : Int), i64 (t.e : Int)] 27, .tok j 27 6 (encs s.2.1).length, .box b6 [i64 t.kind, i64 t.n, str t.s, i64 (t.b : Int), i64 (t.e : Int)] 84, .box b4 ty27.zl 27, slv p bA bF tx T last s.2.2, .mp bA (kv A), .mp bF (kv F)])
              (fun s => sArgs T last up s.1 s.2.1 s.2.2 = res ∧ last < s.1 + s.2.2 ∧ s.2.2 ≤ last ∧ pos + 2 ≤ s.2.2 ∧ s.2.1.length ≤ s.2.2) (fun s => last - s.2.2) (last + 1, [], pos + 2)
              ⟨hres, by dsimp only; omega, by dsimp only; omega, Nat.le_refl _, by simp⟩ els _ (Picks.perm pks) ?_
            rintro ⟨m, acc, pos1⟩ ⟨i1, i2, i3, i4, i5⟩
            dsimp only at i1 i2 i3 i4 i5 ⊢
            have hle := encs_length acc
            obtain ⟨m, rfl⟩ : ∃ q, m = q + 1 := ⟨m - 1, by omega⟩
            rw [sArgs] at i1
            have g1 := hup 0 pos1 (by omega) i3
            have w1 := wup 0 pos1 i3
            unfold SimS Slv at g1
            cases h1 : up 0 pos1 with
            | bad q =>
              rw [h1] at g1 i1
              dsimp only [SRes.bnd, List.nil_append] at g1 i1
              subst i1
              dsimp only [SRes.bnd]
              repeat (any_goals (first | refine s_at ?_ | refine s_move ?_ | refine aw_seq ?_ | refine aw_seqr ?_ | refine aw_block ?_ | (refine s_call g1 (fun x τ' h => by cases h.1) (fun c τ' h env' => ?_); obtain ⟨h1, _, rfl⟩ := h; cases h1)))
              (repeat (first | refine then_pan ?_ | refine inb_pan ?_)); exact post_pan ⟨_, .pan _, rfl, _, rfl⟩ pks
            | ok x q =>
              obtain ⟨x, pr⟩ := x
              rw [h1] at g1 i1 w1
              obtain ⟨w2, w3⟩ := w1
              dsimp only [SRes.bnd, enU, List.nil_append] at g1 i1
              rw [enc_ag] at g1
              have g3 := snext I p bA bF tx T last q hT hla w3
              have f4 := sim_isT I (nxt T last q) ⟨#[44]⟩
              have e4 : encs acc ++ [AV.ag [i64 x.kind, i64 x.n, str x.s, AV.sl 6 (encs x.l), i64 x.b, i64 x.e]] = encs (acc ++ [x]) := by
                rw [encs_append, encs, encs, enc_ag]
              cases c4 : isT (nxt T last q) ⟨#[44]⟩ with
              | true =>
                rw [c4] at f4
                rw [c4, if_pos rfl] at i1
                have hq := nxt_isT c4
                repeat (any_goals (first | refine s_at ?_ | refine s_skip ?_ | refine s_move ?_ | refine s_assign ?_ | refine s_load ?_ | refine s_pure ?_ | refine s_nil ?_ | refine aw_seq ?_ | refine aw_seqr ?_ | refine aw_block ?_ | refine aw_false ?_ | refine s_alloc (fun _ => ?_) | refine s_store' ?_ | (refine s_call g1 (fun x τ' h => ?_) (fun c τ' h => by cases h.1); obtain ⟨h1, rfl⟩ := h; cases h1) | refine s_litq ?_ | refine s_append ?_ | refine s_callr g3 ?_ | refine s_call0 f4 ?_ | refine s_add ?_))
                rw [e4]
                refine d_end fun env' he => inb_nor (then_nor ?_)
                refine ⟨(m, acc ++ [x], q + 1), ?dr0, ⟨i1, ?_, ?_, ?_, ?_⟩, ?_, EnvLe.of_eq he ?_, ?perm0⟩
                case perm0 => exact Picks.perm pks
                · dsimp only; omega
                · dsimp only; omega
                · dsimp only; omega
                · dsimp only; rw [List.length_append]; simp only [List.length_cons, List.length_nil]; omega
                · dsimp only; omega
                · exact els
              | false =>
                rw [c4] at f4
                rw [c4, if_neg (by simp)] at i1
                subst i1
                dsimp only [SRes.bnd]
                cases c5 : isT (nxt T last q) ⟨#[41]⟩ with
                | true =>
                  rw [if_pos rfl]
                  have hq := nxt_isT c5
                  have g5 := smust_yes I p bA bF tx T last q hT hla w3 ⟨#[41]⟩ c5
                  repeat (any_goals (first | refine s_at ?_ | refine s_move ?_ | refine s_assign ?_ | refine s_load ?_ | refine s_pure ?_ | refine s_nil ?_ | refine aw_seq ?_ | refine aw_seqr ?_ | refine aw_block ?_ | refine aw_true ?_ | refine s_alloc (fun _ => ?_) | refine s_store' ?_ | (refine s_call g1 (fun x τ' h => ?_) (fun c τ' h => by cases h.1); obtain ⟨h1, rfl⟩ := h; cases h1) | refine s_litq ?_ | refine s_append ?_ | refine s_callr g3 ?_ | refine s_call0 f4 ?_))
                  rw [e4]
                  refine aw_exit ?_; (repeat refine then_exit ?_); refine inb_out (by decide) ?_; (repeat refine then_exit ?_); refine inb_exit ?_; refine then_nor ?_
                  repeat (any_goals (first | refine s_at ?_ | refine s_move ?_ | refine s_assign ?_ | refine s_load ?_ | refine s_pure ?_ | refine s_nil ?_ | refine aw_seq ?_ | refine aw_seqr ?_ | refine s_store' ?_ | refine s_callr g3 ?_ | (refine s_call g5 (fun x τ' h => ?_) (fun c τ' h => by cases h.1); obtain ⟨h1, rfl⟩ := h; cases h1)))
                  refine aw_ret ?_; (repeat (first | refine then_ret ?_))
                  refine post_of ⟨_, .ret _ _ ?_, rfl, rfl⟩ rvs pks
                  exact .tu _ _ (.cons _ _ _ _ (sub_enc (.os _ _ _ _ (Subs.refl _))) (Subs.refl _))
                | false =>
                  rw [if_neg (by simp)]
                  have g5 := smust_no I p bA bF tx T last q hT hla w3 ⟨#[41]⟩ c5
                  repeat (any_goals (first | refine s_at ?_ | refine s_move ?_ | refine s_assign ?_ | refine s_load ?_ | refine s_pure ?_ | refine s_nil ?_ | refine aw_seq ?_ | refine aw_seqr ?_ | refine aw_block ?_ | refine aw_true ?_ | refine s_alloc (fun _ => ?_) | refine s_store' ?_ | (refine s_call g1 (fun x τ' h => ?_) (fun c τ' h => by cases h.1); obtain ⟨h1, rfl⟩ := h; cases h1) | refine s_litq ?_ | refine s_append ?_ | refine s_callr g3 ?_ | refine s_call0 f4 ?_))
                  refine aw_exit ?_; (repeat refine then_exit ?_); refine inb_out (by decide) ?_; (repeat refine then_exit ?_); refine inb_exit ?_; refine then_nor ?_
                  repeat (any_goals (first | refine s_at ?_ | refine s_move ?_ | refine s_pure ?_ | refine s_nil ?_ | refine aw_seq ?_ | refine aw_seqr ?_ | refine s_store' ?_ | refine s_callr g3 ?_ | (refine s_call g5 (fun x τ' h => by cases h.1) (fun c τ' h env' => ?_); obtain ⟨h1, rfl⟩ := h; cases h1)))
                  (repeat (first | refine then_pan ?_)); exact post_pan ⟨_, .pan _, rfl, _, rfl⟩ pks
end
end Go.Proofs.YtjcocblohiglbaaGreatDoor
