/- Reading: what read comes to. Conditions: none. -/
import Derived.Test.YtjcocblohiglbaaGreatDoorC3
import Derived.Test.YtjcocblohiglbaaGreatDoorA8
namespace Go.Proofs.YtjcocblohiglbaaGreatDoor
open Go.Dp
set_option linter.unusedVariables false
set_option linter.unusedSimpArgs false
theorem readB_shape (rule : ByteArray → List Tk → Nat → List (Nat × Nat) → Res Nd) (kd : ByteArray → Int) (ops : List Mx) (tx : ByteArray) (T : List Tk) :
    ((readB rule kd ops tx T).e = 0 ∧ (readB rule kd ops tx T).at_ = 0) ∨ ((readB rule kd ops tx T).e ≠ 0 ∧ (readB rule kd ops tx T).n = zeroN) := by
  unfold readB
  cases rule tx T 0 [] with
  | bad q => exact .inr ⟨(by show (20 : Int) ≠ 0; decide), rfl⟩
  | ok n q ex =>
    dsimp only
    by_cases h1 : q < T.length
    · rw [if_pos h1]; exact .inr ⟨(by show (20 : Int) ≠ 0; decide), rfl⟩
    · rw [if_neg h1]
      by_cases h2 : apartM kd ops = false
      · rw [if_pos h2]; exact .inr ⟨(by show (21 : Int) ≠ 0; decide), rfl⟩
      · rw [if_neg h2]
        cases solveL T (tabM true ops) (tabM false ops) ex [] with
        | bad q => exact .inr ⟨(by show (22 : Int) ≠ 0; decide), rfl⟩
        | ok es z =>
          dsimp only
          by_cases h3 : cnt (fill es n) > 60000 ∨ dep (fill es n) > 400
          · rw [if_pos h3]; exact .inr ⟨(by show (2 : Int) ≠ 0; decide), rfl⟩
          · rw [if_neg h3]; exact .inl ⟨rfl, rfl⟩
section
variable (I : World → Prop)
set_option maxRecDepth 20000 in set_option maxHeartbeats 4000000 in
theorem sim_read (kd : ByteArray → Int) (hk : KindOk I kd) (ops : List Mx) (hl : ops.length ≤ 1000000) (hsm : ∀ m, m ∈ ops → SmallM m) (hne : ∀ m, m ∈ ops → m.parts ≠ []) (rule : ByteArray → List Tk → Nat → List (Nat × Nat) → Res Nd) (f : FuncId) (tx : ByteArray) (lx : ByteArray → List Tk × Int × Int)
    (hlx : Sim Tryz.prog I 54 [str tx] [] (fun o τ => o = .ret (.tu [.sl 5 ((lx tx).1.map etok), i64 (lx tx).2.1, i64 (lx tx).2.2]) ∧ τ = []))
    (hT : Fit (lx tx).1) (hN : Nums (lx tx).1) (hi : ItoaOk I) (hj : JoinOk I) (hA : ∀ q, q ∈ tabM true ops → MxOk q.2) (hF : ∀ q, q ∈ tabM false ops → MxOk q.2)
    (h0 : ∀ pr k, SimP I pr tx (lx tx).1 k f [ptr pr] enc (rule tx (lx tx).1) 0 []) (hg : ∀ n q ex, rule tx (lx tx).1 0 [] = .ok n q ex → Good (lx tx).1 (tabM true ops) (tabM false ops) n ex) :
    Sim Tryz.prog I 34 [str tx, .fn (.func f) [] [], .fn (.func 35) [] [.ep [.sl 5 (ops.map emix)]]] [] (fun o τ => o = .ret (enR (readP lx rule kd ops tx)) ∧ τ = []) := by
  rw [readP_eq]
  have hr1 := fun pr k b13 => sim_try (I := I) (fs := []) (sim_read1 I kd hk ops hl hsm hne rule f tx (lx tx).1 hT hN hi hj hA hF pr k b13 (h0 pr k) hg) (fun o τ h => by
    rcases h with ⟨_, h, _⟩ | ⟨_, h, _⟩
    · exact .inl h
    · exact .inr ⟨_, _, h⟩)
  have hsh := readB_shape rule kd ops tx (lx tx).1
  generalize hT1 : (lx tx).1 = T at *
  generalize (lx tx).2.1 = at0 at *
  generalize (lx tx).2.2 = er0 at *
  unfold enR
  by_cases he : er0 ≠ 0
  · rw [if_pos he]
    refine sim_body' Tryz.func34 rfl rfl rfl ?_
    repeat (any_goals (first | refine s_at ?_ | refine s_move ?_ | refine s_assign ?_ | refine s_pure ?_ | refine s_nil ?_ | refine aw_seq ?_ | refine aw_seqr ?_ | refine aw_true ?_ | refine s_alloc (fun _ => ?_) | refine s_box1 (fun _ => ?_) | refine s_store' ?_ | (refine s_cmp (fun h => ?_) (fun h => ?_) <;> try (exfalso; first | omega | exact h he)) | refine s_call0 hlx ?_))
    refine aw_ret ?_; (repeat (first | refine then_ret ?_))
    refine post_of ⟨_, .ret _ _ ?_, rfl, rfl⟩ rvs pks
    exact .tu _ _ (.cons _ _ _ _ (sub_enc (.nil 6)) (Subs.refl _))
  · rw [if_neg he]
    generalize readB rule kd ops tx T = r at *
    rcases hsh with ⟨e1, e2⟩ | ⟨e1, e2⟩
    · have hr2 : ∀ pr k b13, Sim Tryz.prog I 55 [.fn (.func 56) [] [.ep [.fn (.func f) [] []], .ep [ptr pr], .ep [.sl 5 (T.map etok)], .ep [.fn (.func 35) [] [.ep [.sl 5 (ops.map emix)]]], ptr b13]] (.box b13 ty27.zl 27 :: Rdr pr tx T k 0 []) (fun o τ => o = .ret (.tu [i64 0, i64 0]) ∧ τ = [.box b13 (enc r.n).cells 27]) := fun pr k b13 => (hr1 pr k b13).mono (fun o τ h => by
          rcases h with ⟨h1, h2⟩ | ⟨e, p, h1, h2⟩
          · rcases h1 with ⟨_, _, h3⟩ | ⟨h3, _, _⟩
            · exact ⟨h2, h3⟩
            · exact absurd e1 h3
          · rcases h1 with ⟨_, h3, _⟩ | ⟨h3, _, _⟩
            · cases h3
            · exact absurd e1 h3)
      unfold Rdr at hr2
      have hcl : (enc r.n).cells = [i64 r.n.kind, i64 r.n.n, str r.n.s, .sl 6 (encs r.n.l), i64 r.n.b, i64 r.n.e] := by rw [enc_ag]; rfl
      rw [hcl] at hr2
      rw [e1, e2, enc_ag]
      refine sim_body Tryz.func34 rfl rfl rfl ?_
      repeat (any_goals (first | refine aw_freeze 4 rfl (Pick.perm (by repeat (first | exact Pick.here _ | apply Pick.there))) (by intro x hx; rw [List.mem_singleton] at hx; subst hx; rfl) ?_ | refine aw_freeze 5 rfl (Pick.perm (by repeat (first | exact Pick.here _ | apply Pick.there))) (by intro x hx; rw [List.mem_singleton] at hx; subst hx; rfl) ?_ | refine aw_freeze 9 rfl (Pick.perm (by repeat (first | exact Pick.here _ | apply Pick.there))) (by intro x hx; rw [List.mem_singleton] at hx; subst hx; rfl) ?_ | refine aw_freeze 12 rfl (Pick.perm (by repeat (first | exact Pick.here _ | apply Pick.there))) (by intro x hx; rw [List.mem_singleton] at hx; subst hx; rfl) ?_ | refine aw_boxtok (t := 82) 3 89 2 (by repeat (first | exact Pick.here _ | apply Pick.there)) rfl (fun k => ?_) | refine s_at ?_ | refine s_skip ?_ | refine s_move ?_ | refine s_assign ?_ | refine s_load ?_ | refine s_loade ?_ | refine s_pure ?_ | refine s_nil ?_ | refine aw_seq ?_ | refine aw_seqr ?_ | refine aw_false ?_ | refine s_alloc (fun _ => ?_) | refine s_box (fun _ => ?_) | refine s_box1 (fun _ => ?_) | refine s_store' ?_ | (refine s_cmp (fun h => ?_) (fun h => ?_) <;> try (exfalso; omega)) | refine s_call0 hlx ?_ | (refine s_call (hr2 _ _ _) (fun x τ' h => ?_) (fun c τ' h => by cases h.1); obtain ⟨h2, rfl⟩ := h; cases h2)))
      refine aw_ret ?_; (repeat (first | refine then_ret ?_))
      exact post_of ⟨rfl, rfl⟩ rvs pks
    · have hr2 : ∀ pr k b13, Sim Tryz.prog I 55 [.fn (.func 56) [] [.ep [.fn (.func f) [] []], .ep [ptr pr], .ep [.sl 5 (T.map etok)], .ep [.fn (.func 35) [] [.ep [.sl 5 (ops.map emix)]]], ptr b13]] (.box b13 ty27.zl 27 :: Rdr pr tx T k 0 []) (fun o τ => o = .ret (.tu [i64 r.at_, i64 r.e]) ∧ τ = []) := fun pr k b13 => (hr1 pr k b13).mono (fun o τ h => by
          rcases h with ⟨h1, h2⟩ | ⟨e, p, h1, h2⟩
          · rcases h1 with ⟨h3, _, _⟩ | ⟨_, h3, _⟩
            · exact absurd h3 e1
            · cases h3
          · rcases h1 with ⟨h3, _, _⟩ | ⟨_, h3, h4⟩
            · exact absurd h3 e1
            · exact ⟨by rw [h2]; cases h3; rfl, h4⟩)
      unfold Rdr at hr2
      rw [e2]
      refine sim_body' Tryz.func34 rfl rfl rfl ?_
      repeat (any_goals (first | refine aw_freeze 4 rfl (Pick.perm (by repeat (first | exact Pick.here _ | apply Pick.there))) (by intro x hx; rw [List.mem_singleton] at hx; subst hx; rfl) ?_ | refine aw_freeze 5 rfl (Pick.perm (by repeat (first | exact Pick.here _ | apply Pick.there))) (by intro x hx; rw [List.mem_singleton] at hx; subst hx; rfl) ?_ | refine aw_freeze 9 rfl (Pick.perm (by repeat (first | exact Pick.here _ | apply Pick.there))) (by intro x hx; rw [List.mem_singleton] at hx; subst hx; rfl) ?_ | refine aw_freeze 12 rfl (Pick.perm (by repeat (first | exact Pick.here _ | apply Pick.there))) (by intro x hx; rw [List.mem_singleton] at hx; subst hx; rfl) ?_ | refine aw_boxtok (t := 82) 3 89 2 (by repeat (first | exact Pick.here _ | apply Pick.there)) rfl (fun k => ?_) | refine s_at ?_ | refine s_skip ?_ | refine s_move ?_ | refine s_assign ?_ | refine s_loade ?_ | refine s_pure ?_ | refine s_nil ?_ | refine aw_seq ?_ | refine aw_seqr ?_ | refine aw_true ?_ | refine aw_false ?_ | refine s_alloc (fun _ => ?_) | refine s_box (fun _ => ?_) | refine s_box1 (fun _ => ?_) | refine s_store' ?_ | (refine s_cmp (fun h => ?_) (fun h => ?_) <;> try (exfalso; omega)) | refine s_call0 hlx ?_ | (refine s_call (hr2 _ _ _) (fun x τ' h => ?_) (fun c τ' h => by cases h.1); obtain ⟨h2, rfl⟩ := h; cases h2)))
      refine aw_ret ?_; (repeat (first | refine then_ret ?_))
      refine post_of ⟨_, .ret _ _ ?_, rfl, rfl⟩ rvs pks
      exact .tu _ _ (.cons _ _ _ _ (sub_enc (.nil 6)) (Subs.refl _))
end
end Go.Proofs.YtjcocblohiglbaaGreatDoor
/- What Behaviour and Expr give: the plain reading. Conditions: those that the contracts name. -/
namespace Go.Proofs.YtjcocblohiglbaaGreatDoor
open Go.Dp
set_option linter.unusedVariables false
section
variable (I : World → Prop)
end
end Go.Proofs.YtjcocblohiglbaaGreatDoor
