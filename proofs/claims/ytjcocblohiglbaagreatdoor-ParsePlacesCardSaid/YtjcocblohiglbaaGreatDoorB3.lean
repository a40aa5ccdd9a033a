/- The reader of expressions: expressions up to a priority; the expression of an extent. Conditions: none. -/
import Derived.Test.YtjcocblohiglbaaGreatDoorB2
namespace Go.Proofs.YtjcocblohiglbaaGreatDoor
open Go.Dp
set_option linter.unusedVariables false
set_option linter.unusedSimpArgs false
section
variable (I : World → Prop) (p bA bF : Nat) (tx : ByteArray) (T : List Tk) (last : Nat) (A F : List (ByteArray × Mx))
/-- What may stand behind an expression. -/
def sUpL (up : Int → Nat → SRes (Nd × Int)) (n : Int) : Nat → Nd → Int → Nat → SRes (Nd × Int)
  | 0, _, _, pos => .bad pos
  | k + 1, x, prio, pos =>
    if isT (nxt T last pos) ⟨#[111, 102]⟩ = true then
      if (nxt T last (pos + 1)).kind = 1 then sUpL up n k (.mk 51 0 (nxt T last (pos + 1)).s [x] x.b (nxt T last (pos + 1)).e) 10 (pos + 2) else .bad (pos + 1)
    else match look A (nxt T last pos).s with
      | some op =>
        if partT (nxt T last pos) = true ∧ ¬ op.prio < n ∧ ¬ prio < op.prio ∧ ¬ (prio = op.prio ∧ ¬ op.side = 1) then
          (sRest T last up op [x] x.b (pos + 1)).bnd fun y q => sUpL up n k y op.prio q
        else .ok (x, prio) pos
      | none => .ok (x, prio) pos
def sUpTo (up : Int → Nat → SRes (Nd × Int)) (n : Int) (pos : Nat) : SRes (Nd × Int) := (sFirst T last F up n pos).bnd fun x q => sUpL T last A up n (last + 1) x.1 x.2 q
/-- An expression up to a priority; the first number is the fuel. -/
def sUp : Nat → Int → Nat → SRes (Nd × Int)
  | 0 => fun _ pos => .bad pos
  | f + 1 => sUpTo T last A F (sUp f)
theorem sUpL_wf (up : Int → Nat → SRes (Nd × Int)) (wup : ∀ n q, q ≤ last → (up n q).wf last (q + 1)) (n : Int) : ∀ (k : Nat) (x : Nd) (prio : Int) (pos : Nat), pos ≤ last → (sUpL T last A up n k x prio pos).wf last pos
  | 0, x, prio, pos, _ => trivial
  | k + 1, x, prio, pos, hp => by
    rw [sUpL]
    split
    · split
      · rename_i h
        have := nxt_lt (T := T) (last := last) (pos := pos + 1) (by omega)
        exact swf_le (sUpL_wf up wup n k _ _ (pos + 2) (by omega)) (by omega)
      · trivial
    · split
      · split
        · rename_i h
          have := nxt_part h.1
          exact swf_bnd (sRest_wf T last up wup _ _ _ (pos + 1) (by omega)) (fun y q h1 h2 => swf_le (sUpL_wf up wup n k _ _ q h2) (by omega))
        · exact ⟨Nat.le_refl _, hp⟩
      · exact ⟨Nat.le_refl _, hp⟩
theorem sUpTo_wf (up : Int → Nat → SRes (Nd × Int)) (wup : ∀ n q, q ≤ last → (up n q).wf last (q + 1)) (n : Int) (pos : Nat) (hp : pos ≤ last) : (sUpTo T last A F up n pos).wf last (pos + 1) := by
  rw [sUpTo]
  exact swf_bnd (sFirst_wf T last F up wup n pos hp) (fun x q h1 h2 => swf_le (sUpL_wf T last A up wup n _ _ _ q h2) h1)
theorem sUp_wf : ∀ (f : Nat) (n : Int) (pos : Nat), pos ≤ last → (sUp T last A F f n pos).wf last (pos + 1)
  | 0, n, pos, _ => trivial
  | f + 1, n, pos, hp => by rw [sUp]; exact sUpTo_wf T last A F _ (sUp_wf f) n pos hp
theorem sim_rest1 (hs : SH I T last A F) (up : Int → Nat → SRes (Nd × Int)) (wup : ∀ n q, q ≤ last → (up n q).wf last (q + 1)) (op : Mx) (hop : MxOk op) (x : Nd) (pos : Nat) (h0 : 0 < pos) (hp : pos ≤ last)
    (hup : ∀ n q, pos ≤ q → q ≤ last → SimS I p bA bF tx T last A F 74 [ptr p, i64 n] [] enU (up n q) q) (k : Nat) :
    Sim Tryz.prog I 87 [ptr p, .ag [.sl 1 (op.parts.map fun s => str s), boo op.left, boo op.right, i64 op.prio, i64 op.side], .os k 6 [.ag [i64 x.kind, i64 x.n, str x.s, .sl 6 (encs x.l), i64 x.b, i64 x.e]], i64 x.b]
      [.tok k 27 6 1, slv p bA bF tx T last pos, .mp bA (kv A), .mp bF (kv F)] (fun o τ => match sRest T last up op [x] x.b pos with
        | .ok a q => o = .ret (.ag [i64 a.kind, i64 a.n, str a.s, .sl 6 (encs a.l), i64 a.b, i64 a.e]) ∧ τ = [slv p bA bF tx T last q, .mp bA (kv A), .mp bF (kv F)]
        | .bad q => o = .pan (stopV 22 (here tx T q)) ∧ ∃ q', τ = [slv p bA bF tx T last q', .mp bA (kv A), .mp bF (kv F)]) := by
  have h := sim_rest I p bA bF tx T last A F hs up wup op hop k [x] (by simp) x.b pos h0 hp hup
  unfold SimS Slv emix emixL at h
  rw [encs, encs, enc_ag x] at h
  refine h.mono fun o τ ho => ?_
  cases hr : sRest T last up op [x] x.b pos with
  | ok a q => rw [hr] at ho; dsimp only at ho ⊢; rw [enc_ag] at ho; exact ho
  | bad q => rw [hr] at ho; exact ho
set_option maxRecDepth 20000 in set_option maxHeartbeats 4000000 in
theorem sim_upTo (hs : SH I T last A F) (up : Int → Nat → SRes (Nd × Int)) (wup : ∀ n q, q ≤ last → (up n q).wf last (q + 1)) (n : Int) (pos : Nat) (hp : pos ≤ last)
    (hup : ∀ n q, pos < q → q ≤ last → SimS I p bA bF tx T last A F 74 [ptr p, i64 n] [] enU (up n q) q) :
    SimS I p bA bF tx T last A F 74 [ptr p, i64 n] [] enU (sUpTo T last A F up n pos) pos := by
  have hT := hs.fit
  have hT' : T.length ≤ 1000000 := hT
  have hla := hs.last
  have g1 := sim_first I p bA bF tx T last A F hs up wup n pos hp hup
  have w1 := sFirst_wf T last F up wup n pos hp
  unfold SimS Slv at g1 ⊢
  rw [sUpTo]
  cases h1 : sFirst T last F up n pos with
  | bad q =>
    rw [h1] at g1
    dsimp only [SRes.bnd, List.nil_append] at g1 ⊢
    refine sim_body' Tryz.func74 rfl rfl rfl ?_
    repeat (any_goals (first | refine s_at ?_ | refine s_move ?_ | refine s_assign ?_ | refine s_nil ?_ | refine aw_seq ?_ | refine aw_seqr ?_ | refine s_alloc (fun _ => ?_) | (refine s_call g1 (fun x τ' h => by cases h.1) (fun c τ' h env' => ?_); obtain ⟨h1, _, rfl⟩ := h; cases h1)))
    (repeat (first | refine then_pan ?_)); exact post_pan ⟨_, .pan _, rfl, _, rfl⟩ pks
  | ok x0 q0 =>
    obtain ⟨x0, pr0⟩ := x0
    rw [h1] at g1 w1
    obtain ⟨w2, w3⟩ := w1
    dsimp only [SRes.bnd, enU, List.nil_append] at g1 ⊢
    rw [enc_ag] at g1
    generalize hres : sUpL T last A up n (last + 1) x0 pr0 q0 = res
    refine sim_body' Tryz.func74 rfl rfl rfl ?_
    repeat (any_goals (first | refine s_at ?_ | refine s_move ?_ | refine s_assign ?_ | refine s_pure ?_ | refine s_nil ?_ | refine aw_seq ?_ | refine aw_seqr ?_ | refine aw_block ?_ | refine s_alloc (fun _ => ?_) | refine s_store' ?_ | (refine s_call g1 (fun x τ' h => ?_) (fun c τ' h => by cases h.1); obtain ⟨h1, rfl⟩ := h; cases h1)))
    rename_i b4 b6
    refine aw_loop (fun s : Nat × Nd × Int × Nat => [(0, ptr p), (1, i64 n), (4, ptr b4), (6, ptr b6), (7, i64 s.2.2.1)])
      (fun s => [.box b6 [i64 s.2.1.kind, i64 s.2.1.n, str s.2.1.s, .sl 6 (encs s.2.1.l), i64 s.2.1.b, i64 s.2.1.e] 27, .box b4 ty27.zl 27, slv p bA bF tx T last s.2.2.2, .mp bA (kv A), .mp bF (kv F)])
      (fun s => sUpL T last A up n s.1 s.2.1 s.2.2.1 s.2.2.2 = res ∧ last < s.1 + s.2.2.2 ∧ s.2.2.2 ≤ last ∧ pos < s.2.2.2) (fun s => last - s.2.2.2) (last + 1, x0, pr0, q0)
      ⟨hres, by dsimp only; omega, w3, w2⟩ els _ (Picks.perm pks) ?_
    rintro ⟨m, x, prio, pos1⟩ ⟨i1, i2, i3, i4⟩
    dsimp only at i1 i2 i3 i4 ⊢
    obtain ⟨m, rfl⟩ : ∃ q, m = q + 1 := ⟨m - 1, by omega⟩
    rw [sUpL] at i1
    have g2 := snext I p bA bF tx T last pos1 hT hla i3
    have f1 := sim_isT I (nxt T last pos1) ⟨#[111, 102]⟩
    have f2 := sim_isPart I (nxt T last pos1)
    cases c1 : isT (nxt T last pos1) ⟨#[111, 102]⟩ with
    | true =>
      rw [c1] at f1
      rw [c1, if_pos rfl] at i1
      have hlt := nxt_isT c1
      have g3 := snext I p bA bF tx T last (pos1 + 1) hT hla (by omega)
      by_cases cK : (nxt T last (pos1 + 1)).kind = 1
      · rw [if_pos cK] at i1
        have hlt2 := nxt_lt (T := T) (last := last) (pos := pos1 + 1) (by omega)
        repeat (any_goals (first | refine s_at ?_ | refine s_skip ?_ | refine s_move ?_ | refine s_assign ?_ | refine s_load ?_ | refine s_loadd ?_ | refine s_pure ?_ | refine s_nil ?_ | refine aw_seq ?_ | refine aw_seqr ?_ | refine aw_block ?_ | refine aw_true ?_ | refine aw_false ?_ | refine s_alloc (fun _ => ?_) | refine s_store' ?_ | (refine s_cmp (fun h => ?_) (fun h => ?_) <;> try (exfalso; omega)) | refine s_callr g2 ?_ | refine s_callr g3 ?_ | refine s_callrd g3 ?_ | refine s_call0 f1 ?_ | refine s_add ?_ | refine s_drawn 12 [11] ?_ | refine s_litq ?_))
        refine aw_exit ?_; (repeat refine then_exit ?_); refine inb_exit ?_; refine then_nor ?_
        rw [show AV.sl 6 [AV.ag [i64 x.kind, i64 x.n, str x.s, AV.sl 6 (encs x.l), i64 x.b, i64 x.e]] = AV.sl 6 (encs [x]) by rw [encs, encs, enc_ag x]]
        refine ⟨(m, .mk 51 0 (nxt T last (pos1 + 1)).s [x] x.b (nxt T last (pos1 + 1)).e, 10, pos1 + 2), ?dr0, ⟨i1, ?_, ?_, ?_⟩, ?_, els, ?perm0⟩
        case perm0 => exact Picks.perm pks
        · dsimp only; omega
        · dsimp only; omega
        · dsimp only; omega
        · dsimp only; omega
      · rw [if_neg cK] at i1
        subst i1
        repeat (any_goals (first | refine s_at ?_ | refine s_move ?_ | refine s_load ?_ | refine s_pure ?_ | refine s_nil ?_ | refine aw_seq ?_ | refine aw_seqr ?_ | refine aw_block ?_ | refine aw_true ?_ | refine s_alloc (fun _ => ?_) | refine s_store' ?_ | (refine s_cmp (fun h => ?_) (fun h => ?_) <;> try (exfalso; omega)) | refine s_callr g2 ?_ | refine s_callr g3 ?_ | refine s_call0 f1 ?_ | refine s_add ?_ | (refine s_call (swrong I p bA bF tx T last (pos1 + 1) hT hla (by omega)) (fun x τ' h => by cases h.1) (fun c τ' h env' => ?_); obtain ⟨h1, rfl⟩ := h; cases h1)))
        (repeat (first | refine then_pan ?_ | refine inb_pan ?_)); exact post_pan ⟨_, .pan _, rfl, _, rfl⟩ pks
    | false =>
      rw [c1] at f1
      rw [c1, if_neg (by simp)] at i1
      cases hlk : look A (nxt T last pos1).s with
      | none =>
        have hn := look_none hlk
        rw [hlk] at i1
        dsimp only at i1
        subst i1
        cases cP : partT (nxt T last pos1) <;>
        · rw [cP] at f2
          repeat (any_goals (first | refine s_at ?_ | refine s_skip ?_ | refine s_off ?_ | refine s_offn ?_ | refine s_move ?_ | refine s_assign ?_ | refine s_load ?_ | refine s_loadd ?_ | refine s_pick1 ?_ | refine s_pick0 ?_ | refine s_pure ?_ | refine s_nil ?_ | refine aw_seq ?_ | refine aw_seqr ?_ | refine aw_block ?_ | refine aw_true ?_ | refine aw_false ?_ | refine s_alloc (fun _ => ?_) | refine s_allocd (fun _ => ?_) | refine s_store' ?_ | refine s_callr g2 ?_ | refine s_call0 f1 ?_ | refine s_call0 f2 ?_ | refine s_drawn 14 [12] ?_ | refine s_lookup0 keyL (kv_str A) ⟨_, rfl⟩ hn ?_))
          refine aw_ret ?_; (repeat (first | refine then_ret ?_ | refine inb_ret ?_))
          refine post_of ⟨_, .ret _ _ ?_, rfl, rfl⟩ rvs pks
          exact .tu _ _ (.cons _ _ _ _ (by rw [enc_ag]; exact .refl _) (Subs.refl _))
      | some op =>
        obtain ⟨j, hj, hmem⟩ := look_some hlk
        have hop := hs.after _ hmem
        unfold emix emixL at hj
        rw [hlk] at i1
        dsimp only at i1
        by_cases cc : partT (nxt T last pos1) = true ∧ ¬ op.prio < n ∧ ¬ prio < op.prio ∧ ¬ (prio = op.prio ∧ ¬ op.side = 1)
        · rw [if_pos cc] at i1
          obtain ⟨cP, cA, cB, cC⟩ := cc
          rw [cP] at f2
          have hlt := nxt_part cP
          have gR := sim_rest1 I p bA bF tx T last A F hs up wup op hop x (pos1 + 1) (by omega) (by omega) (fun n q h1 h2 => hup n q (by omega) h2)
          have wR := sRest_wf T last up wup op [x] x.b (pos1 + 1) (by omega)
          cases h2 : sRest T last up op [x] x.b (pos1 + 1) with
          | bad q =>
            rw [h2] at gR i1
            dsimp only [SRes.bnd] at gR i1
            subst i1
            by_cases cE : prio = op.prio
            · have cS : op.side = 1 := by
                by_cases h : op.side = 1
                · exact h
                · exact absurd ⟨cE, h⟩ cC
              repeat (any_goals (first | refine s_at ?_ | refine s_skip ?_ | refine s_move ?_ | refine s_assign ?_ | refine s_load ?_ | refine s_loadd ?_ | refine s_pick1 ?_ | refine s_pick0 ?_ | refine s_pure ?_ | refine s_nil ?_ | refine aw_seq ?_ | refine aw_seqr ?_ | refine aw_block ?_ | refine aw_false ?_ | refine s_alloc (fun _ => ?_) | refine s_allocd (fun _ => ?_) | refine s_store' ?_ | (refine s_cmp (fun h => ?_) (fun h => ?_) <;> try (exfalso; omega)) | refine s_callr g2 ?_ | refine s_call0 f1 ?_ | refine s_call0 f2 ?_ | refine s_drawn 14 [12] ?_ | refine s_lookup keyL (kv_str A) hj ?_ | refine s_add ?_ | refine s_lit (fun _ => ?_) | (refine s_call (gR _) (fun x τ' h => by cases h.1) (fun c τ' h env' => ?_); obtain ⟨h1, _, rfl⟩ := h; cases h1)))
              (repeat (first | refine then_pan ?_ | refine inb_pan ?_)); exact post_pan ⟨_, .pan _, rfl, _, rfl⟩ pks
            · repeat (any_goals (first | refine s_at ?_ | refine s_skip ?_ | refine s_off ?_ | refine s_move ?_ | refine s_assign ?_ | refine s_load ?_ | refine s_loadd ?_ | refine s_pick0 ?_ | refine s_pure ?_ | refine s_nil ?_ | refine aw_seq ?_ | refine aw_seqr ?_ | refine aw_block ?_ | refine aw_false ?_ | refine s_alloc (fun _ => ?_) | refine s_allocd (fun _ => ?_) | refine s_store' ?_ | (refine s_cmp (fun h => ?_) (fun h => ?_) <;> try (exfalso; omega)) | refine s_callr g2 ?_ | refine s_call0 f1 ?_ | refine s_call0 f2 ?_ | refine s_drawn 14 [12] ?_ | refine s_lookup keyL (kv_str A) hj ?_ | refine s_add ?_ | refine s_lit (fun _ => ?_) | (refine s_call (gR _) (fun x τ' h => by cases h.1) (fun c τ' h env' => ?_); obtain ⟨h1, _, rfl⟩ := h; cases h1)))
              (repeat (first | refine then_pan ?_ | refine inb_pan ?_)); exact post_pan ⟨_, .pan _, rfl, _, rfl⟩ pks
          | ok y q =>
            rw [h2] at gR i1 wR
            obtain ⟨w4, w5⟩ := wR
            dsimp only [SRes.bnd] at gR i1
            by_cases cE : prio = op.prio
            · have cS : op.side = 1 := by
                by_cases h : op.side = 1
                · exact h
                · exact absurd ⟨cE, h⟩ cC
              repeat (any_goals (first | refine s_at ?_ | refine s_skip ?_ | refine s_move ?_ | refine s_assign ?_ | refine s_load ?_ | refine s_loadd ?_ | refine s_pick1 ?_ | refine s_pick0 ?_ | refine s_pure ?_ | refine s_nil ?_ | refine aw_seq ?_ | refine aw_seqr ?_ | refine aw_block ?_ | refine aw_false ?_ | refine s_alloc (fun _ => ?_) | refine s_allocd (fun _ => ?_) | refine s_store' ?_ | (refine s_cmp (fun h => ?_) (fun h => ?_) <;> try (exfalso; omega)) | refine s_callr g2 ?_ | refine s_call0 f1 ?_ | refine s_call0 f2 ?_ | refine s_drawn 14 [12] ?_ | refine s_lookup keyL (kv_str A) hj ?_ | refine s_add ?_ | refine s_lit (fun _ => ?_) | (refine s_call (gR _) (fun x τ' h => ?_) (fun c τ' h => by cases h.1); obtain ⟨h1, rfl⟩ := h; cases h1)))
              refine d_end fun env' he => inb_nor (then_nor ?_)
              refine ⟨(m, y, op.prio, q), ?dr1, ⟨i1, ?_, ?_, ?_⟩, ?_, EnvLe.of_eq he ?_, ?perm1⟩
              case perm1 => exact Picks.perm pks
              · dsimp only; omega
              · dsimp only; omega
              · dsimp only; omega
              · dsimp only; omega
              · exact els
            · repeat (any_goals (first | refine s_at ?_ | refine s_skip ?_ | refine s_off ?_ | refine s_move ?_ | refine s_assign ?_ | refine s_load ?_ | refine s_loadd ?_ | refine s_pick0 ?_ | refine s_pure ?_ | refine s_nil ?_ | refine aw_seq ?_ | refine aw_seqr ?_ | refine aw_block ?_ | refine aw_false ?_ | refine s_alloc (fun _ => ?_) | refine s_allocd (fun _ => ?_) | refine s_store' ?_ | (refine s_cmp (fun h => ?_) (fun h => ?_) <;> try (exfalso; omega)) | refine s_callr g2 ?_ | refine s_call0 f1 ?_ | refine s_call0 f2 ?_ | refine s_drawn 14 [12] ?_ | refine s_lookup keyL (kv_str A) hj ?_ | refine s_add ?_ | refine s_lit (fun _ => ?_) | (refine s_call (gR _) (fun x τ' h => ?_) (fun c τ' h => by cases h.1); obtain ⟨h1, rfl⟩ := h; cases h1)))
              refine d_end fun env' he => inb_nor (then_nor ?_)
              refine ⟨(m, y, op.prio, q), ?dr2, ⟨i1, ?_, ?_, ?_⟩, ?_, EnvLe.of_eq he ?_, ?perm2⟩
              case perm2 => exact Picks.perm pks
              · dsimp only; omega
              · dsimp only; omega
              · dsimp only; omega
              · dsimp only; omega
              · exact els
        · rw [if_neg cc] at i1
          subst i1
          cases cP : partT (nxt T last pos1) with
          | false =>
            rw [cP] at f2
            repeat (any_goals (first | refine s_at ?_ | refine s_skip ?_ | refine s_off ?_ | refine s_offn ?_ | refine s_move ?_ | refine s_assign ?_ | refine s_load ?_ | refine s_loadd ?_ | refine s_pick1 ?_ | refine s_pure ?_ | refine s_nil ?_ | refine aw_seq ?_ | refine aw_seqr ?_ | refine aw_block ?_ | refine aw_true ?_ | refine aw_false ?_ | refine s_alloc (fun _ => ?_) | refine s_allocd (fun _ => ?_) | refine s_store' ?_ | refine s_callr g2 ?_ | refine s_call0 f1 ?_ | refine s_call0 f2 ?_ | refine s_drawn 14 [12] ?_ | refine s_lookup keyL (kv_str A) hj ?_))
            refine aw_ret ?_; (repeat (first | refine then_ret ?_ | refine inb_ret ?_))
            refine post_of ⟨_, .ret _ _ ?_, rfl, rfl⟩ rvs pks
            exact .tu _ _ (.cons _ _ _ _ (by rw [enc_ag]; exact .refl _) (Subs.refl _))
          | true =>
            rw [cP] at f2
            by_cases cA : op.prio < n
            · repeat (any_goals (first | refine s_at ?_ | refine s_skip ?_ | refine s_off ?_ | refine s_offn ?_ | refine s_move ?_ | refine s_assign ?_ | refine s_load ?_ | refine s_loadd ?_ | refine s_pick1 ?_ | refine s_pick0 ?_ | refine s_pure ?_ | refine s_nil ?_ | refine aw_seq ?_ | refine aw_seqr ?_ | refine aw_block ?_ | refine aw_true ?_ | refine aw_false ?_ | refine s_alloc (fun _ => ?_) | refine s_allocd (fun _ => ?_) | refine s_store' ?_ | (refine s_cmp (fun h => ?_) (fun h => ?_) <;> try (exfalso; omega)) | refine s_callr g2 ?_ | refine s_call0 f1 ?_ | refine s_call0 f2 ?_ | refine s_drawn 14 [12] ?_ | refine s_lookup keyL (kv_str A) hj ?_))
              refine aw_ret ?_; (repeat (first | refine then_ret ?_ | refine inb_ret ?_))
              refine post_of ⟨_, .ret _ _ ?_, rfl, rfl⟩ rvs pks
              exact .tu _ _ (.cons _ _ _ _ (by rw [enc_ag]; exact .refl _) (Subs.refl _))
            · by_cases cB : prio < op.prio
              · repeat (any_goals (first | refine s_at ?_ | refine s_skip ?_ | refine s_off ?_ | refine s_offn ?_ | refine s_move ?_ | refine s_assign ?_ | refine s_load ?_ | refine s_loadd ?_ | refine s_pick1 ?_ | refine s_pick0 ?_ | refine s_pure ?_ | refine s_nil ?_ | refine aw_seq ?_ | refine aw_seqr ?_ | refine aw_block ?_ | refine aw_true ?_ | refine aw_false ?_ | refine s_alloc (fun _ => ?_) | refine s_allocd (fun _ => ?_) | refine s_store' ?_ | (refine s_cmp (fun h => ?_) (fun h => ?_) <;> try (exfalso; omega)) | refine s_callr g2 ?_ | refine s_call0 f1 ?_ | refine s_call0 f2 ?_ | refine s_drawn 14 [12] ?_ | refine s_lookup keyL (kv_str A) hj ?_))
                refine aw_ret ?_; (repeat (first | refine then_ret ?_ | refine inb_ret ?_))
                refine post_of ⟨_, .ret _ _ ?_, rfl, rfl⟩ rvs pks
                exact .tu _ _ (.cons _ _ _ _ (by rw [enc_ag]; exact .refl _) (Subs.refl _))
              · have cE : prio = op.prio ∧ ¬ op.side = 1 := by
                  by_cases h : prio = op.prio ∧ ¬ op.side = 1
                  · exact h
                  · exact absurd ⟨cP, cA, cB, h⟩ cc
                obtain ⟨cE, cS⟩ := cE
                repeat (any_goals (first | refine s_at ?_ | refine s_skip ?_ | refine s_move ?_ | refine s_assign ?_ | refine s_load ?_ | refine s_loadd ?_ | refine s_pick1 ?_ | refine s_pick0 ?_ | refine s_pure ?_ | refine s_nil ?_ | refine aw_seq ?_ | refine aw_seqr ?_ | refine aw_block ?_ | refine aw_true ?_ | refine aw_false ?_ | refine s_alloc (fun _ => ?_) | refine s_allocd (fun _ => ?_) | refine s_store' ?_ | (refine s_cmp (fun h => ?_) (fun h => ?_) <;> try (exfalso; omega)) | refine s_callr g2 ?_ | refine s_call0 f1 ?_ | refine s_call0 f2 ?_ | refine s_drawn 14 [12] ?_ | refine s_lookup keyL (kv_str A) hj ?_))
                refine aw_ret ?_; (repeat (first | refine then_ret ?_ | refine inb_ret ?_))
                refine post_of ⟨_, .ret _ _ ?_, rfl, rfl⟩ rvs pks
                exact .tu _ _ (.cons _ _ _ _ (by rw [enc_ag]; exact .refl _) (Subs.refl _))
theorem sim_up (hs : SH I T last A F) : ∀ (f : Nat) (n : Int) (pos : Nat), pos ≤ last → last - pos < f → SimS I p bA bF tx T last A F 74 [ptr p, i64 n] [] enU (sUp T last A F f n pos) pos := by
  intro f
  induction f with
  | zero => intro n pos _ h; omega
  | succ f ih =>
    intro n pos hp hf
    rw [sUp]
    exact sim_upTo I p bA bF tx T last A F hs (sUp T last A F f) (sUp_wf T last A F f) n pos hp (fun n q h1 h2 => ih n q h2 (by omega))
end
/-- The expression of an extent. -/
def sSolve (T : List Tk) (A F : List (ByteArray × Mx)) (x : Nat × Nat) : SRes Nd :=
  (sUp T x.2 A F (x.2 + 1) 0 x.1).bnd fun r q => if q = x.2 then .ok r.1 q else .bad q
set_option maxRecDepth 20000 in set_option maxHeartbeats 4000000 in
theorem sim_solve (I : World → Prop) (pr bA bF : Nat) (tx : ByteArray) (T : List Tk) (A F : List (ByteArray × Mx)) (x : Nat × Nat) (hs : SH I T x.2 A F) (hx : x.1 ≤ x.2) (pos : Nat) (ex : AV) :
    Sim Tryz.prog I 58 [ptr pr, .ag [.sc (.map (some bA)), .sc (.map (some bF))], .ag [i64 (x.1 : Int), i64 (x.2 : Int)]] [rd pr tx T pos ex, .mp bA (kv A), .mp bF (kv F)] (fun o τ => τ = [rd pr tx T pos ex, .mp bA (kv A), .mp bF (kv F)] ∧ match sSolve T A F x with
      | .ok a q => o = .ret (enc a)
      | .bad q => o = .pan (stopV 22 (here tx T q))) := by
  obtain ⟨fr, to⟩ := x
  have hT := hs.fit
  have hla := hs.last
  dsimp only at hs hx hla ⊢
  rw [sSolve]
  dsimp only
  have w1 := sUp_wf T to A F (to + 1) 0 fr hx
  have g1 := fun p => sim_up I p bA bF tx T to A F hs (to + 1) 0 fr hx (by omega)
  unfold SimS Slv at g1
  cases h1 : sUp T to A F (to + 1) 0 fr with
  | bad q =>
    rw [h1] at g1
    dsimp only [SRes.bnd, List.nil_append] at g1 ⊢
    refine sim_body' Tryz.func58 rfl rfl rfl ?_
    repeat (any_goals (first | refine s_at ?_ | refine s_move ?_ | refine s_assign ?_ | refine s_loadd ?_ | refine s_pure ?_ | refine s_nil ?_ | refine aw_seq ?_ | refine aw_seqr ?_ | refine s_alloc (fun _ => ?_) | refine s_box (fun _ => ?_) | refine s_drawn 16 [14] ?_ | refine s_boxd (fun _ => ?_) | (refine s_call (g1 _) (fun x τ' h => by cases h.1) (fun c τ' h env' => ?_); obtain ⟨h1, _, rfl⟩ := h; cases h1)))
    (repeat (first | refine then_pan ?_)); exact post_pan ⟨_, .pan _, rfl, rfl⟩ pks
  | ok r q =>
    obtain ⟨r, prio⟩ := r
    rw [h1] at g1 w1
    obtain ⟨w2, w3⟩ := w1
    dsimp only [SRes.bnd, enU, List.nil_append] at g1 ⊢
    rw [enc_ag] at g1
    by_cases hq : q = to
    · rw [if_pos hq]
      refine sim_body' Tryz.func58 rfl rfl rfl ?_
      repeat (any_goals (first | refine s_at ?_ | refine s_skip ?_ | refine s_move ?_ | refine s_assign ?_ | refine s_load ?_ | refine s_loadd ?_ | refine s_pure ?_ | refine s_nil ?_ | refine aw_seq ?_ | refine aw_seqr ?_ | refine aw_false ?_ | refine s_alloc (fun _ => ?_) | refine s_box (fun _ => ?_) | refine s_store' ?_ | (refine s_cmp (fun h => ?_) (fun h => ?_) <;> try (exfalso; omega)) | refine s_drawn 16 [14] ?_ | refine s_drawn 7 [] ?_ | refine s_boxd (fun _ => ?_) | (refine s_call (g1 _) (fun x τ' h => ?_) (fun c τ' h => by cases h.1); obtain ⟨h1, rfl⟩ := h; cases h1)))
      refine aw_ret ?_; (repeat (first | refine then_ret ?_))
      refine post_of ⟨_, .ret _ _ ?_, rfl, rfl⟩ rvs pks
      rw [enc_ag]
      exact .refl _
    · rw [if_neg hq]
      refine sim_body' Tryz.func58 rfl rfl rfl ?_
      repeat (any_goals (first | refine s_at ?_ | refine s_move ?_ | refine s_assign ?_ | refine s_loadd ?_ | refine s_pure ?_ | refine s_nil ?_ | refine aw_seq ?_ | refine aw_seqr ?_ | refine aw_true ?_ | refine s_alloc (fun _ => ?_) | refine s_box (fun _ => ?_) | refine s_store' ?_ | (refine s_cmp (fun h => ?_) (fun h => ?_) <;> try (exfalso; omega)) | refine s_drawn 16 [14] ?_ | refine s_drawn 7 [] ?_ | refine s_boxd (fun _ => ?_) | (refine s_call (g1 _) (fun x τ' h => ?_) (fun c τ' h => by cases h.1); obtain ⟨h1, rfl⟩ := h; cases h1) | (refine s_call (swrong I _ bA bF tx T to q hT hla w3) (fun x τ' h => by cases h.1) (fun c τ' h env' => ?_); obtain ⟨h1, rfl⟩ := h; cases h1)))
      (repeat (first | refine then_pan ?_)); exact post_pan ⟨_, .pan _, rfl, rfl⟩ pks
end Go.Proofs.YtjcocblohiglbaaGreatDoor
