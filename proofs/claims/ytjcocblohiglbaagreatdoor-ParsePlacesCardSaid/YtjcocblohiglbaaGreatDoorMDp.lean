/- Parts LL, LM, LN of the walks of package lex, in one text. -/
import Derived.Test.YtjcocblohiglbaaGreatDoorMC
import Derived.Test.YtjcocblohiglbaaGreatDoorMA
import Derived.Deep.LoopGhost
import Derived.Defers
import Derived.Recover
import Derived.Laws.Pointers
/- The walk of (*scanner).cut: the whole text is cut, or it ends with a panic where that is wrong. -/
namespace Go.Proofs.YtjcocblohiglbaaGreatDoor
open Go.RowKit
set_option linter.unusedVariables false
set_option linter.unusedSimpArgs false

/-- At the head of a round of cut. -/
structure CutAt (B : Nat) (w0 : World) (g wm sm rb : Nat) (s : ByteArray) (p : Nat) (ts : List Lex.Tok) (cs : List (Nat × Nat)) (ov cv : Value) (wr : World) : Prop where
  le : p ≤ s.size
  tl : ts.length ≤ p
  cl : cs.length ≤ p
  sc : Sc B wr g wm sm rb s p ts cs ov cv
  eq : Lex.scan (rest s p).length (rest s p) p ts cs = Lex.cutL s.data.toList
  bel : Below B w0 wr
def CutInv (B : Nat) (w0 : World) (g wm sm rb : Nat) (s : ByteArray) (k : Nat) (wr : World) : Prop := ∃ p ts cs ov cv, s.size - p ≤ k ∧ CutAt B w0 g wm sm rb s p ts cs ov cv wr

/-- What cut comes to. -/
def CutPost (B : Nat) (g wm sm rb : Nat) (s : ByteArray) (w : World) (e : Ending) (w' : World) : Prop :=
  Below B w w' ∧ match Lex.cutL s.data.toList with
  | .err p => e = wrongAt p 10
  | .done ts cs => if 20000 < ts.length then e = wrongAt 0 2 else e = .returned (.tuple #[]) ∧ ∃ ov cv, Sc B w' g wm sm rb s s.size ts cs ov cv

section
variable {B : Nat} {w w' : World} {g wm sm rb : Nat} {s : ByteArray} {p : Nat} {ts : List Lex.Tok} {cs : List (Nat × Nat)} {ov cv : Value}
theorem rest_ne (h : p < s.size) : rest s p ≠ [] := by
  rw [rest_step s p h]
  exact List.cons_ne_nil _ _
theorem CutAt.next (h : CutAt B w g wm sm rb s p ts cs ov cv w') (hlt : p < s.size) {w2 : World} {e : Ending} (hb : Below B w' w2) (hp : StepPost B g wm sm rb s p ts cs w' e w2) :
    (e = .returned (.tuple #[]) ∧ ∃ q ts' cs' ov' cv', p < q ∧ CutAt B w g wm sm rb s q ts' cs' ov' cv' w2) ∨ (e = wrongAt p 10 ∧ Lex.cutL s.data.toList = .err p) := by
  have h1 := h.eq
  rw [Lex.scan_step _ _ _ _ (rest_ne hlt)] at h1
  unfold StepPost at hp
  obtain ⟨_, hp⟩ := hp
  cases hs : Lex.step (rest s p) with
  | skip =>
    rw [hs] at hp h1
    obtain ⟨he, ov', cv', hS⟩ := hp
    exact .inl ⟨he, p + 1, ts, cs, ov', cv', by omega, ⟨by omega, by have := h.tl; omega, by have := h.cl; omega, hS, by simp only [drop_rest] at h1; exact h1, h.bel.trans hb⟩⟩
  | comm k =>
    rw [hs] at hp h1
    obtain ⟨he, k1, kle, ov', cv', hS⟩ := hp
    exact .inl ⟨he, p + k, ts, _, ov', cv', by omega, ⟨kle, by have := h.tl; omega, by have := h.cl; simp; omega, hS, by simp only [drop_rest] at h1; exact h1, h.bel.trans hb⟩⟩
  | tok kd n b k =>
    rw [hs] at hp h1
    obtain ⟨he, k1, kle, ov', cv', hS⟩ := hp
    exact .inl ⟨he, p + k, _, cs, ov', cv', by omega, ⟨kle, by have := h.tl; simp; omega, by have := h.cl; omega, hS, by simp only [drop_rest] at h1; exact h1, h.bel.trans hb⟩⟩
  | bad =>
    rw [hs] at hp h1
    exact .inr ⟨hp, h1.symm⟩
theorem CutAt.ends (h : CutAt B w g wm sm rb s p ts cs ov cv w') (hge : ¬ p < s.size) : p = s.size ∧ Lex.cutL s.data.toList = .done ts cs := by
  have hp : p = s.size := by have := h.le; omega
  refine ⟨hp, ?_⟩
  rw [← h.eq, rest_end s p (by omega)]
  exact (Lex.scan_nil _ _ _)
end

theorem CutAt.same {B : Nat} {w W wr : World} {g wm sm rb : Nat} {s : ByteArray} {p : Nat} {ts : List Lex.Tok} {cs : List (Nat × Nat)} {ov cv : Value} (h : CutAt B w g wm sm rb s p ts cs ov cv wr) (hb : Below wr.heap.size wr W) : CutAt B w g wm sm rb s p ts cs ov cv W :=
  ⟨h.le, h.tl, h.cl, ⟨h.sc.blk.below hb, own_below h.sc.out hb, own_below h.sc.com hb, h.sc.wds.move (hb.block _ h.sc.wds.lt), h.sc.sgs.move (hb.block _ h.sc.sgs.lt), h.sc.rul.move (hb.block _ h.sc.rb_lt), h.sc.bg, Nat.le_trans h.sc.bB hb.size⟩, h.eq, h.bel.trans (hb.mono h.sc.bB)⟩
def StepGood (B : Nat) (w : World) (g wm sm rb : Nat) (s : ByteArray) (p : Nat) (e : Ending) (w' : World) : Prop := e = .returned (.tuple #[]) ∧ ∃ q ts cs ov cv, p < q ∧ CutAt B w g wm sm rb s q ts cs ov cv w'
def StepBad (B : Nat) (w : World) (s : ByteArray) (p : Nat) (e : Ending) (w' : World) : Prop := e = wrongAt p 10 ∧ Lex.cutL s.data.toList = .err p ∧ Below B w w'
theorem step_good {B : Nat} {w W wr : World} {g wm sm rb : Nat} {s : ByteArray} {p : Nat} {ts : List Lex.Tok} {cs : List (Nat × Nat)} {ov cv : Value} (hs : s.size ≤ 100000) (hG : ∀ W, Below B w W → GL W) (h : CutAt B w g wm sm rb s p ts cs ov cv wr) (hlt : p < s.size)
    (hst : Lex.step (rest s p) ≠ .bad) (hb : Below wr.heap.size wr W) : Calls Tryz.prog (ruleOf (Lex.cls s[p])) #[.pointer (some ⟨g, 0, none⟩)] W (StepGood B w g wm sm rb s p) := by
  have h2 := h.same hb
  refine (step_calls hs (by have := h2.tl; omega) (by have := h2.cl; omega) (hG _ h2.bel) h2.sc hlt).mono ?_
  intro e w' hp
  rcases h2.next hlt hp.1 hp with h3 | ⟨h3, h4⟩
  · exact h3
  · exfalso
    unfold StepPost at hp
    obtain ⟨_, hp⟩ := hp
    cases hs2 : Lex.step (rest s p) with
    | bad => exact hst hs2
    | skip => rw [hs2] at hp; rw [hp.1] at h3; cases h3
    | comm k => rw [hs2] at hp; rw [hp.1] at h3; cases h3
    | tok => rw [hs2] at hp; rw [hp.1] at h3; cases h3
theorem step_wrong {B : Nat} {w W wr : World} {g wm sm rb : Nat} {s : ByteArray} {p : Nat} {ts : List Lex.Tok} {cs : List (Nat × Nat)} {ov cv : Value} (hs : s.size ≤ 100000) (hG : ∀ W, Below B w W → GL W) (h : CutAt B w g wm sm rb s p ts cs ov cv wr) (hlt : p < s.size)
    (hst : Lex.step (rest s p) = .bad) (hb : Below wr.heap.size wr W) : Calls Tryz.prog (ruleOf (Lex.cls s[p])) #[.pointer (some ⟨g, 0, none⟩)] W (StepBad B w s p) := by
  have h2 := h.same hb
  refine (step_calls hs (by have := h2.tl; omega) (by have := h2.cl; omega) (hG _ h2.bel) h2.sc hlt).mono ?_
  intro e w' hp
  have hp0 := hp
  unfold StepPost at hp
  rw [hst] at hp
  rcases h2.next hlt hp.1 hp0 with ⟨h3, _⟩ | ⟨h3, h4⟩
  · rw [hp.2] at h3; cases h3
  · exact ⟨h3, h4, h2.bel.trans hp.1⟩
theorem look_at {B : Nat} {w wr : World} {g wm sm rb : Nat} {s : ByteArray} {p : Nat} {ts : List Lex.Tok} {cs : List (Nat × Nat)} {ov cv : Value} (h : CutAt B w g wm sm rb s p ts cs ov cv wr) (c : Nat) (hc : c < 6) (W : World) (hW : W.heap[rb]? = wr.heap[rb]?) :
    (Instr.lookup 136 (.map (some rb)) (.int .i64 (c : Int)) false).run Tryz.prog W = .ok (.func (.func (ruleOf c)) #[] #[]) W := (h.sc.rul.move hW).look c hc

theorem own_form {w : World} {base : Nat} {e : TypeId} {size n : Nat} {v : Value} {xs : List Value} (h : w.ownsRow base e size v n xs) : ∃ A c, v = .slice A n c := by
  rcases h.2 with ⟨rfl, rfl⟩ | ⟨gg, cap, cur, rfl, _⟩
  · exact ⟨_, _, rfl⟩
  · exact ⟨_, _, rfl⟩
theorem cutPost_many {B : Nat} {g wm sm rb : Nat} {s : ByteArray} {w w' : World} {ts : List Lex.Tok} {cs : List (Nat × Nat)} (h : Lex.cutL s.data.toList = .done ts cs) (hn : 20000 < ts.length) (hb : Below B w w') : CutPost B g wm sm rb s w (wrongAt 0 2) w' := by
  unfold CutPost; rw [h]; refine ⟨hb, ?_⟩; show (if 20000 < ts.length then _ else _); rw [if_pos hn]
theorem cutPost_done {B : Nat} {g wm sm rb : Nat} {s : ByteArray} {w w' : World} {ts : List Lex.Tok} {cs : List (Nat × Nat)} (h : Lex.cutL s.data.toList = .done ts cs) (hn : ¬ 20000 < ts.length) (hb : Below B w w') (hS : ∃ ov cv, Sc B w' g wm sm rb s s.size ts cs ov cv) :
    CutPost B g wm sm rb s w (.returned (.tuple #[])) w' := by
  unfold CutPost; rw [h]; refine ⟨hb, ?_⟩; show (if 20000 < ts.length then _ else _); rw [if_neg hn]; exact ⟨rfl, hS⟩
theorem cutPost_err {B : Nat} {g wm sm rb : Nat} {s : ByteArray} {w w' : World} {p : Nat} (h : Lex.cutL s.data.toList = .err p) (hb : Below B w w') : CutPost B g wm sm rb s w (wrongAt p 10) w' := by
  unfold CutPost; rw [h]; exact ⟨hb, rfl⟩
set_option maxRecDepth 100000 in
set_option maxHeartbeats 1000000 in
theorem cut_long (g wm sm : Nat) (s : ByteArray) (ov cv : Value) (w : World) (hs : 100000 < s.size) (hs2 : s.size ≤ 140737488351232) (hb : ScBlk w g s 0 wm sm ov cv) :
    Calls Tryz.prog 72 #[.pointer (some ⟨g, 0, none⟩)] w fun e w' => e = wrongAt 0 2 ∧ w = w' := by
  have h0 := hb.c0
  have hs3 : (100000 : Int) < (s.size : Int) := by omega
  go_enter Tryz.func72, Tryz.ntmps72
  go_wp2
  exact ⟨rfl, rfl, rfl⟩

set_option maxRecDepth 100000 in
set_option maxHeartbeats 1000000 in
theorem cut_any (B : Nat) (g wm sm : Nat) (s : ByteArray) (w : World) (hs : s.size ≤ 100000) (hG : ∀ W, Below B w W → GL W) (hb : ScBlk w g s 0 wm sm (.slice none 0 0) (.slice none 0 0))
    (hwd : HasSet w wm Lex.wordsL) (hsg : HasSet w sm Lex.signsL) (hBg : B ≤ g) (hB : B ≤ w.heap.size) :
    Calls Tryz.prog 72 #[.pointer (some ⟨g, 0, none⟩)] w fun e w' => ∃ rb, CutPost B g wm sm rb s w e w' := by
  have h0 := hb.c0
  have Hb := Lib.hid hb
  have Hwd := Lib.hid hwd
  have Hsg := Lib.hid hsg
  have HG := Lib.hid hG
  clear hb hwd hsg hG
  go_enter Tryz.func72, Tryz.ntmps72
  go_wp2_with fail
  refine (rules_any _).mono ?_
  rintro e w1 ⟨rfl, hr, hB1⟩
  have hstart : CutAt B w g wm sm w.heap.size s 0 [] [] (.slice none 0 0) (.slice none 0 0) w1 :=
    ⟨Nat.zero_le _, Nat.le_refl _, Nat.le_refl _, ⟨Hb.below hB1, World.ownsRow_nil _ _ _ _, World.ownsRow_nil _ _ _ _, Hwd.move (hB1.block _ Hwd.lt), Hsg.move (hB1.block _ Hsg.lt), hr, hBg, Nat.le_trans hB hB1.size⟩, by unfold Lex.cutL rest; rfl, hB1.mono hB⟩
  have hinv : CutInv B w g wm sm w.heap.size s s.size w1 := ⟨0, [], [], _, _, by omega, hstart⟩
  clear hstart hr hB1 Hb Hwd Hsg
  generalize w.heap.size = rb at *
  go_wp2_with fail
  go_loopg [] s.size (fun k wr => CutInv B w g wm sm rb s k wr)
  case atStart => exact hinv
  case round =>
    obtain ⟨p, ts, cs, ov, cv, hk, hI⟩ := hrel
    have c0 := hI.sc.blk.c0
    have c1 := hI.sc.blk.c1
    have hple := hI.le
    by_cases hlt : p < s.size
    · have hlt2 : (p : Int) < (s.size : Int) := by omega
      have he := fun args W => rule_enters (Lex.cls s[p]) args W
      have hl1 := fun n => look_at hI (Lex.cls s[p]) (cls_lt _) (wr.drewN n) rfl
      have hl2 := fun n => look_at hI (Lex.cls s[p]) (cls_lt _) (wr.drewN n).drew rfl
      by_cases hst : Lex.step (rest s p) = .bad
      · have Hst := Lib.hid (fun W hW => step_wrong (W := W) hs HG.out hI hlt hst hW)
        clear hst
        generalize ruleOf (Lex.cls s[p]) = rf at *
        go_wp2_with fail
        go_quiet (fail)
        go_wp2_with fail
        refine wp_region_any (by kernel_rfl) ?_
        try (change wpAny _ _ _ _ _ _ _ (World.drew _))
        refine wpAny_take (i := 0) (v := ?_) rfl (by kernel_rfl) (by kernel_rfl) (by kernel_rfl) (fun _ _ _ h => h) (Or.inl ⟨by rfl, ?_⟩) ?_
        rotate_left
        · intro w
          go_simp
          try with_reducible rfl
        refine wpAny_take (i := 1) (v := ?_) rfl (by kernel_rfl) (by kernel_rfl) (by kernel_rfl) (fun _ _ _ h => h) (Or.inl ⟨by rfl, ?_⟩) ?_
        rotate_left
        · intro w
          go_simp
          try with_reducible rfl
        refine wpAny_take (i := 2) (v := ?_) rfl (by kernel_rfl) (by kernel_rfl) (by kernel_rfl) (fun _ _ _ h => h) (Or.inl ⟨by rfl, ?_⟩) ?_
        rotate_left
        · intro w
          go_simp
          try with_reducible rfl
        refine wpAny_take (i := 3) (v := ?_) rfl (by kernel_rfl) (by kernel_rfl) (by kernel_rfl) (fun _ _ _ h => h) (Or.inl ⟨by rfl, ?_⟩) ?_
        rotate_left
        · intro w
          go_simp
          try with_reducible rfl
        refine wpAny_take (i := 5) (v := ?_) rfl (by kernel_rfl) (by kernel_rfl) (by kernel_rfl) (fun _ _ _ h => h) (Or.inl ⟨by rfl, ?_⟩) ?_
        rotate_left
        · intro w
          go_simp
          try with_reducible rfl
        refine wpAny_take (i := 6) (v := ?_) rfl (by kernel_rfl) (by kernel_rfl) (by kernel_rfl) (fun _ _ _ h => h) (Or.inl ⟨by rfl, ?_⟩) ?_
        rotate_left
        · intro w
          go_simp
          try with_reducible rfl
        refine wpAny_take (i := 7) (v := ?_) rfl (by kernel_rfl) (by kernel_rfl) (by kernel_rfl) (fun _ _ _ h => h) (Or.inl ⟨by rfl, ?_⟩) ?_
        rotate_left
        · intro w
          go_simp
          try with_reducible rfl
        refine wpAny_take (i := 12) (v := ?_) rfl (by kernel_rfl) (by kernel_rfl) (by kernel_rfl) (fun _ _ _ h => h) (Or.inl ⟨by rfl, ?_⟩) ?_
        rotate_left
        · intro w
          go_simp
          try with_reducible rfl
        refine wpAny_ready (rs := [4, 8]) (by kernel_rfl) (by simp) ?_
        refine AllReady.cons rfl (fun K hK => ?_) ?_
        · go_simp
          refine hK _ _ ?_
          clear hK K
          refine wpAny_ready (rs := [8]) (by kernel_rfl) (by simp) ?_
          refine AllReady.cons rfl (fun K hK => ?_) ?_
          · go_simp
            refine hK _ _ ?_
            clear hK K
            refine wpAny_ready (rs := [9]) (by kernel_rfl) (by simp) ?_
            refine AllReady.cons rfl (fun K hK => ?_) ?_
            · go_simp
              refine hK _ _ ?_
              clear hK K
              refine wpAny_ready (rs := [10]) (by kernel_rfl) (by simp) ?_
              refine AllReady.cons rfl (fun K hK => ?_) ?_
              · go_simp
                go_wp2_with (go_at_call 84; refine (class_any _ _).mono ?_; rintro e w' ⟨rfl, rfl⟩)
                try (refine hK _ _ ?_; clear hK K)
                refine wpAny_ready (rs := [11]) (by kernel_rfl) (by simp) ?_
                refine AllReady.cons rfl (fun K hK => ?_) ?_
                · go_simp
                  refine hK _ _ ?_
                  clear hK K
                  refine wpAny_ready (rs := [13]) (by kernel_rfl) (by simp) ?_
                  refine AllReady.cons rfl (fun K hK => ?_) ?_
                  · go_simp
                    go_wp2_with fail
                    refine (Hst _ ?_).mono ?_
                    · repeat (first | exact below_drewN' _ _ | apply Below.drew)
                    rintro e w2 ⟨rfl, hc1, hc2⟩
                    exact ⟨rfl, rb, cutPost_err hc1 hc2⟩
                  exact AllReady.nil
                exact AllReady.nil
              exact AllReady.nil
            exact AllReady.nil
          exact AllReady.nil
        refine AllReady.cons rfl (fun K hK => ?_) ?_
        · go_simp
          refine hK _ _ ?_
          clear hK K
          refine wpAny_ready (rs := [4]) (by kernel_rfl) (by simp) ?_
          refine AllReady.cons rfl (fun K hK => ?_) ?_
          · go_simp
            refine hK _ _ ?_
            clear hK K
            refine wpAny_ready (rs := [9]) (by kernel_rfl) (by simp) ?_
            refine AllReady.cons rfl (fun K hK => ?_) ?_
            · go_simp
              refine hK _ _ ?_
              clear hK K
              refine wpAny_ready (rs := [10]) (by kernel_rfl) (by simp) ?_
              refine AllReady.cons rfl (fun K hK => ?_) ?_
              · go_simp
                go_wp2_with (go_at_call 84; refine (class_any _ _).mono ?_; rintro e w' ⟨rfl, rfl⟩)
                try (refine hK _ _ ?_; clear hK K)
                refine wpAny_ready (rs := [11]) (by kernel_rfl) (by simp) ?_
                refine AllReady.cons rfl (fun K hK => ?_) ?_
                · go_simp
                  refine hK _ _ ?_
                  clear hK K
                  refine wpAny_ready (rs := [13]) (by kernel_rfl) (by simp) ?_
                  refine AllReady.cons rfl (fun K hK => ?_) ?_
                  · go_simp
                    go_wp2_with fail
                    refine (Hst _ ?_).mono ?_
                    · repeat (first | exact below_drewN' _ _ | apply Below.drew)
                    rintro e w2 ⟨rfl, hc1, hc2⟩
                    exact ⟨rfl, rb, cutPost_err hc1 hc2⟩
                  exact AllReady.nil
                exact AllReady.nil
              exact AllReady.nil
            exact AllReady.nil
          exact AllReady.nil
        exact AllReady.nil
      · have Hst := Lib.hid (fun W hW => step_good (W := W) hs HG.out hI hlt hst hW)
        clear hst
        generalize ruleOf (Lex.cls s[p]) = rf at *
        go_wp2_with fail
        go_quiet (fail)
        go_wp2_with fail
        go_region_with (first | (go_at_call 84; refine (class_any _ _).mono ?_; rintro e w' ⟨rfl, rfl⟩) | (go_at_fn rf; refine (Hst _ ?_).mono ?_; (repeat (first | exact below_drewN' _ _ | apply Below.drew)); rintro e w2 ⟨rfl, q, ts', cs', ov', cv', hq, hI2⟩))
        all_goals
          have hq2 := hI2.le
          go_wp2_with fail
          go_roundg (s.size - q)
          case measure => omega
          case rel => exact ⟨q, ts', cs', ov', cv', Nat.le_refl _, hI2⟩
    · obtain ⟨hpe, hcut⟩ := hI.ends hlt
      subst hpe
      have c4 := hI.sc.blk.c4
      obtain ⟨A, cp, hov⟩ := own_form hI.sc.out
      rw [hov] at c4
      have Hov := Lib.hid hov
      have HI := Lib.hid hI
      clear hov hI
      by_cases hbig : 20000 < ts.length
      · have hbig2 : (20000 : Int) < (ts.length : Int) := by omega
        go_wp2_with fail
        go_quiet (fail)
        go_wp2_with fail
        exact ⟨rfl, rb, cutPost_many hcut hbig (HI.bel.trans ((below_drewN' _ _).mono HI.sc.bB))⟩
      · have hbig2 : ¬ (20000 : Int) < (ts.length : Int) := by omega
        go_wp2_with fail
        go_quiet (fail)
        go_wp2_with fail
        go_end0
        exact ⟨rb, cutPost_done hcut hbig (HI.bel.trans ((below_drewN' _ _).mono HI.sc.bB)) ⟨_, _, HI.sc.drewN _⟩⟩
end Go.Proofs.YtjcocblohiglbaaGreatDoor
/- The walks of caught, Tokens. -/
namespace Go.Proofs.YtjcocblohiglbaaGreatDoor
open Go.RowKit
set_option linter.unusedVariables false
set_option linter.unusedSimpArgs false

/-- The world behind caught: the two results are laid. -/
def CaughtAt (ba be : Nat) (p er : Int) (w w' : World) : Prop :=
  w'.cell? ⟨ba, 0, none⟩ = some (.int .i64 p) ∧ w'.cell? ⟨be, 0, none⟩ = some (.int .i64 er) ∧ Chg w w' (fun k => k ≠ ba ∧ k ≠ be)

theorem caughtAt_of {ba be : Nat} {x y p er : Int} {w W1 : World} (hB : Below w.heap.size w W1) (hne : ¬ ba = be) (c1 : W1.cell? ⟨ba, 0, none⟩ = some (.int .i64 x)) (c2 : W1.cell? ⟨be, 0, none⟩ = some (.int .i64 y)) :
    CaughtAt ba be p er w ((W1.setCell ⟨ba, 0, none⟩ (.int .i64 p)).setCell ⟨be, 0, none⟩ (.int .i64 er)).drew := by
  refine ⟨?_, ?_, ?_⟩
  · show ((W1.setCell ⟨ba, 0, none⟩ (.int .i64 p)).setCell ⟨be, 0, none⟩ (.int .i64 er)).cell? ⟨ba, 0, none⟩ = _
    rw [World.cell?_of_block (Below.heap_setCell _ _ _ _ (by simpa using hne))]
    simp [go_sem, c1]
  · show ((W1.setCell ⟨ba, 0, none⟩ (.int .i64 p)).setCell ⟨be, 0, none⟩ (.int .i64 er)).cell? ⟨be, 0, none⟩ = _
    have : (W1.setCell ⟨ba, 0, none⟩ (.int .i64 p)).cell? ⟨be, 0, none⟩ = some (.int .i64 y) := by
      rw [World.cell?_of_block (Below.heap_setCell _ _ _ _ (by simpa using (fun e => hne e.symm)))]
      exact c2
    simp [go_sem, this]
  · exact (((Chg.of_below hB _).trans ((Chg.of_setCell _ _ _).mono (fun k _ hk => hk.1))).trans ((Chg.of_setCell _ _ _).mono (fun k _ hk => hk.2))).trans (Chg.of_drew _)

set_option maxRecDepth 100000 in
set_option maxHeartbeats 1000000 in
theorem caught_wrong (ba be : Nat) (x y p er : Int) (older : List PanicEntry) (w : World) (hc : w.cell? ⟨ba, 0, none⟩ = some (.int .i64 x)) (hz : w.frozen? ⟨ba, 0, none⟩ = false) (hc2 : w.cell? ⟨be, 0, none⟩ = some (.int .i64 y)) (hz2 : w.frozen? ⟨be, 0, none⟩ = false) (hne : ¬ ba = be) :
    CallsD Tryz.prog 70 #[.pointer (some ⟨ba, 0, none⟩), .pointer (some ⟨be, 0, none⟩)] (.panicking ({ v := .iface 134 (.agg #[.int .i64 p, .int .i64 er]), recovered := false } :: older)) w fun e u' w' =>
      e = .returned (.tuple #[]) ∧ u' = .panicking ({ v := .iface 134 (.agg #[.int .i64 p, .int .i64 er]), recovered := true } :: older) ∧ CaughtAt ba be p er w w' := by
  have hta : ∀ (v : Value) (W : World), (Instr.typeAssert (.iface 134 v) 20 134 true).run Tryz.prog W = .ok (.tuple #[v, .bool true]) W := fun v W => by kernel_rfl
  have hba : ba < w.heap.size := World.block_lt_of_cell? w _ hc
  have hbe : be < w.heap.size := World.block_lt_of_cell? w _ hc2
  have hne2 : ¬ be = ba := fun e => hne e.symm
  refine callsD_of_wpS Tryz.func70 rfl fun c₀ cs hu => ?_
  apply wpS_seq
  apply wpS_region
  simp [wpOpsS, go_sem, recoverD, hu, Tryz.ntmps70, Exit.thenS]
  rw [show (#[Value.pointer (some ⟨ba, 0, none⟩), Value.pointer (some ⟨be, 0, none⟩)] ++ (Array.replicate 19 undef).setIfInBounds 5 (Value.iface 134 (Value.agg #[Value.int IntKind.i64 p, Value.int IntKind.i64 er]))) = #[Value.pointer (some ⟨ba, 0, none⟩), Value.pointer (some ⟨be, 0, none⟩), undef, undef, undef, undef, undef, Value.iface 134 (Value.agg #[Value.int IntKind.i64 p, Value.int IntKind.i64 er]), undef, undef, undef, undef, undef, undef, undef, undef, undef, undef, undef, undef, undef] by kernel_rfl]
  refine wpS_of_wp ?_
  go_wp2
  generalize hW : w.alloc (Obj.cells #[Value.int IntKind.i64 p, Value.int IntKind.i64 er] 134) = W1
  have hB1 : Below w.heap.size w W1 := hW ▸ below_alloc (Below.refl _ _) _
  have hT : W1.heap[w.heap.size]? = some (Obj.cells #[Value.int IntKind.i64 p, Value.int IntKind.i64 er] 134 (0, 0)) := by rw [← hW]; exact Array.getElem?_push_size
  have c1 : W1.cell? ⟨ba, 0, none⟩ = some (.int .i64 x) := (hB1.cell (p := ⟨ba, 0, none⟩) hba).trans hc
  have c2 : W1.cell? ⟨be, 0, none⟩ = some (.int .i64 y) := (hB1.cell (p := ⟨be, 0, none⟩) hbe).trans hc2
  have f1 : W1.frozen? ⟨ba, 0, none⟩ = false := (hB1.frozen (p := ⟨ba, 0, none⟩) hba).trans hz
  have f2 : W1.frozen? ⟨be, 0, none⟩ = false := (hB1.frozen (p := ⟨be, 0, none⟩) hbe).trans hz2
  have n1 : ¬ w.heap.size = ba := by omega
  have n2 : ¬ w.heap.size = be := by omega
  have n3 : ¬ ba = w.heap.size := by omega
  have n4 : ¬ be = w.heap.size := by omega
  have k0 : W1.cell? ⟨w.heap.size, 0, none⟩ = some (.int .i64 p) := by rw [cell_of_row W1 _ 0 _ _ _ hT]; rfl
  have k1 : W1.cell? ⟨w.heap.size, 1, none⟩ = some (.int .i64 er) := by rw [cell_of_row W1 _ 1 _ _ _ hT]; rfl
  have HB1 := Lib.hid hB1
  clear hW hT hc hc2 hz hz2 hB1 hba hbe
  generalize hb9 : w.heap.size = b9 at n1 n2 n3 n4 k0 k1 ⊢
  go_region
  have hfin : CaughtAt ba be p er w ((W1.setCell ⟨ba, 0, none⟩ (Value.int IntKind.i64 p)).setCell ⟨be, 0, none⟩ (Value.int IntKind.i64 er)).drew := caughtAt_of HB1 hne c1 c2
  go_wp2
  simp [bodyPostS, results, Tryz.results70]
  exact hfin

set_option maxRecDepth 100000 in
set_option maxHeartbeats 1000000 in
theorem caught_idle (pa pe : Option Addr) (w : World) :
    CallsD Tryz.prog 70 #[.pointer pa, .pointer pe] .returning w fun e u' w' => e = .returned (.tuple #[]) ∧ u' = .returning ∧ w' = w := by
  refine callsD_of_wpS Tryz.func70 rfl fun c₀ cs hu => ?_
  apply wpS_seq
  apply wpS_region
  simp [wpOpsS, go_sem, recoverD, hu, Tryz.ntmps70, Exit.thenS]
  rw [show (#[Value.pointer pa, Value.pointer pe] ++ (Array.replicate 19 undef).setIfInBounds 5 Value.nilIface) = #[Value.pointer pa, Value.pointer pe, undef, undef, undef, undef, undef, Value.nilIface, undef, undef, undef, undef, undef, undef, undef, undef, undef, undef, undef, undef, undef] by kernel_rfl]
  refine wpS_of_wp ?_
  go_wp2
  cases c₀
  simp_all [bodyPostS, results, Tryz.results70]

/-- What Tokens returns. -/
def TokPost (s : ByteArray) (w : World) (e : Ending) (w' : World) : Prop :=
  ∃ v : Value, e = .returned (.tuple #[v, .int .i64 ((Lex.tokensL s.data.toList).2.1 : Nat), .int .i64 ((Lex.tokensL s.data.toList).2.2 : Nat)]) ∧
    w'.ownsRow w.heap.size 84 5 v (Lex.tokensL s.data.toList).1.length (tokCells (Lex.tokensL s.data.toList).1) ∧ Below w.heap.size w w'

/-- Two new variables in memory, each 0. -/
structure TwoBoxes (w W : World) : Prop where
  bel : Below w.heap.size w W
  sz : W.heap.size = w.heap.size + 1 + 1
  h1 : W.heap[w.heap.size]? = some (.cells #[.int .i64 0] 3 (0, 0))
  h2 : W.heap[w.heap.size + 1]? = some (.cells #[.int .i64 0] 28 (0, 0))
theorem two_boxes (w : World) : TwoBoxes w ((w.alloc (Obj.cells #[Value.int IntKind.i64 0] 3)).alloc (Obj.cells #[Value.int IntKind.i64 0] 28)) := by
  have s1 : ∀ (v : World) (o : Obj), (v.alloc o).heap.size = v.heap.size + 1 := fun v o => Array.size_push _
  have b2 := Array.getElem?_push_size (xs := (w.alloc (Obj.cells #[Value.int IntKind.i64 0] 3)).heap) (x := (Obj.cells #[Value.int IntKind.i64 0] 28 : Obj))
  rw [s1] at b2
  have b1 := Array.getElem?_push_size (xs := w.heap) (x := (Obj.cells #[Value.int IntKind.i64 0] 3 : Obj))
  refine ⟨below_alloc (below_alloc (Below.refl _ _) _) _, by rw [s1, s1], ?_, b2⟩
  exact ((below_alloc (w := w.alloc (Obj.cells #[Value.int IntKind.i64 0] 3)) (Below.refl _ _) (Obj.cells #[Value.int IntKind.i64 0] 28)).block w.heap.size (by rw [s1]; omega)).trans b1
theorem TwoBoxes.size_le {w W : World} (h : TwoBoxes w W) : w.heap.size ≤ W.heap.size := h.bel.size
theorem TwoBoxes.heap_le {w W : World} (h : TwoBoxes w W) : w.heap.size + 1 < W.heap.size := by rw [h.sz]; omega
theorem TwoBoxes.later {w W W2 : World} (h : TwoBoxes w W) (hb : Below W.heap.size W W2) : W2.cell? ⟨w.heap.size, 0, none⟩ = some (.int .i64 0) ∧ W2.frozen? ⟨w.heap.size, 0, none⟩ = false ∧ W2.cell? ⟨w.heap.size + 1, 0, none⟩ = some (.int .i64 0) ∧ W2.frozen? ⟨w.heap.size + 1, 0, none⟩ = false := by
  have e1 := (hb.block w.heap.size (by have := h.heap_le; omega)).trans h.h1
  have e2 := (hb.block (w.heap.size + 1) h.heap_le).trans h.h2
  refine ⟨by rw [cell_of_row W2 _ 0 _ _ _ e1]; rfl, by simp [World.frozen?, e1], by rw [cell_of_row W2 _ 0 _ _ _ e2]; rfl, by simp [World.frozen?, e2]⟩
theorem tokensL_long (s : ByteArray) (h : 100000 < s.size) : Lex.tokensL s.data.toList = ([], 0, 2) := by
  unfold Lex.tokensL
  rw [if_pos (by simpa using h)]
theorem tokensL_err (s : ByteArray) (h : s.size ≤ 100000) (p : Nat) (hc : Lex.cutL s.data.toList = .err p) : Lex.tokensL s.data.toList = ([], p, 10) := by
  unfold Lex.tokensL
  rw [if_neg (by simpa using h), hc]
theorem tokensL_many (s : ByteArray) (h : s.size ≤ 100000) (ts : List Lex.Tok) (cs : List (Nat × Nat)) (hc : Lex.cutL s.data.toList = .done ts cs) (hn : 20000 < ts.length) : Lex.tokensL s.data.toList = ([], 0, 2) := by
  unfold Lex.tokensL
  rw [if_neg (by simpa using h), hc]
  simp only
  rw [if_pos hn]
theorem tokensL_done (s : ByteArray) (h : s.size ≤ 100000) (ts : List Lex.Tok) (cs : List (Nat × Nat)) (hc : Lex.cutL s.data.toList = .done ts cs) (hn : ¬ 20000 < ts.length) : Lex.tokensL s.data.toList = (ts, 0, 0) := by
  unfold Lex.tokensL
  rw [if_neg (by simpa using h), hc]
  simp only
  rw [if_neg hn]
theorem tokPost_wrong {s : ByteArray} {w w1 w' : World} {p er : Nat} (hb : Below w.heap.size w w1) (hC : CaughtAt w.heap.size (w.heap.size + 1) (p : Int) (er : Int) w1 w') (h : Lex.tokensL s.data.toList = ([], p, er)) :
    TokPost s w (.returned (.tuple #[.slice none 0 0, .int .i64 (p : Int), .int .i64 (er : Int)])) w' := by
  refine ⟨_, by rw [h], by rw [h]; exact World.ownsRow_nil _ _ _ _, ?_⟩
  refine hb.trans (hC.2.2.below hb.size (fun k hk => ?_))
  omega
theorem tokPost_done {s : ByteArray} {w W0 w' : World} {g wm sm rb : Nat} {q : Nat} {ts : List Lex.Tok} {cs : List (Nat × Nat)} {ov cv : Value} (hb : Below w.heap.size w w') (hS : Sc W0.heap.size w' g wm sm rb s q ts cs ov cv) (hle : w.heap.size ≤ W0.heap.size) (hlt : w.heap.size + 1 < W0.heap.size) (h : Lex.tokensL s.data.toList = (ts, 0, 0)) :
    ∀ W, Chg w' W (fun k => k ≠ w.heap.size ∧ k ≠ w.heap.size + 1) → TokPost s w (.returned (.tuple #[ov, .int .i64 0, .int .i64 0])) W := fun W hC => by
  refine ⟨_, by rw [h]; rfl, ?_, ?_⟩
  · rw [h]
    have ho : w'.ownsRow w.heap.size 84 5 ov ts.length (tokCells ts) := by
      refine ⟨hS.out.1, ?_⟩
      rcases hS.out.2 with h2 | ⟨gg, cap, cur, hv, hg, r⟩
      · exact .inl h2
      · exact .inr ⟨gg, cap, cur, hv, by omega, r⟩
    refine own_move ho (fun k hk => ?_)
    obtain ⟨h1, cs2, h2⟩ := own_block hS.out k hk
    exact hC.block k (Array.getElem?_eq_some_iff.1 h2).1 ⟨by omega, by omega⟩
  · exact hb.trans (hC.below hb.size (fun k hk => ⟨by omega, by omega⟩))

set_option maxRecDepth 100000 in
set_option maxHeartbeats 1000000 in
theorem tokens_long (s : ByteArray) (w : World) (hs : 100000 < s.size) (hs2 : s.size ≤ 140737488351232) (hG : GL w) :
    Calls Tryz.prog 54 #[.string s] w (TokPost s w) := by
  have HG := Lib.hid hG
  clear hG
  go_enter_defers Tryz.func54, Tryz.ntmps54
  go_wp2_with fail
  have hW0 := two_boxes w
  generalize hW : (w.alloc (Obj.cells #[Value.int IntKind.i64 0] 3)).alloc (Obj.cells #[Value.int IntKind.i64 0] 28) = W0 at hW0 ⊢
  clear hW
  refine (newScanner_any s _ (HG.below hW0.bel)).mono ?_
  rintro e w1 ⟨g, wm, sm, rfl, hb, hwd, hsg, bg, bwm, bsm, hB⟩
  have HW0 := Lib.hid hW0
  have HB := Lib.hid hB
  clear hW0 hB
  go_wp2_with fail
  refine (cut_long g wm sm s _ _ _ hs hs2 hb).mono ?_
  rintro e w' ⟨rfl, rfl⟩
  have hx := HW0.later (HB.trans (Below.refl _ _))
  go_wp2_with fail
  refine leaves_cons (f := 70) (args := #[.pointer (some ⟨w.heap.size, 0, none⟩), .pointer (some ⟨w.heap.size + 1, 0, none⟩)]) (by simp) (by simp [go_sem]) ?_
  refine (caught_wrong w.heap.size (w.heap.size + 1) 0 0 0 2 [] _ hx.1 hx.2.1 hx.2.2.1 hx.2.2.2 (by omega)).mono ?_
  rintro e u' w'' ⟨rfl, rfl, hC⟩
  have hfin := tokPost_wrong (s := s) (er := 2) (HW0.bel.trans ((HB.trans (Below.refl _ _)).mono HW0.size_le)) hC (tokensL_long s hs)
  have h1 := hC.1
  have h2 := hC.2.1
  clear hC hx
  simp [Leaves, settle, results, Tryz.results54, go_sem, h1, h2]
  exact hfin

set_option maxRecDepth 100000 in
set_option maxHeartbeats 1000000 in
theorem tokens_err (s : ByteArray) (w : World) (hs : s.size ≤ 100000) (p : Nat) (hcut : Lex.cutL s.data.toList = .err p) (hG : GL w) :
    Calls Tryz.prog 54 #[.string s] w (TokPost s w) := by
  have HG := Lib.hid hG
  clear hG
  go_enter_defers Tryz.func54, Tryz.ntmps54
  go_wp2_with fail
  have hW0 := two_boxes w
  generalize hW : (w.alloc (Obj.cells #[Value.int IntKind.i64 0] 3)).alloc (Obj.cells #[Value.int IntKind.i64 0] 28) = W0 at hW0 ⊢
  clear hW
  refine (newScanner_any s _ (HG.below hW0.bel)).mono ?_
  rintro e w1 ⟨g, wm, sm, rfl, hb, hwd, hsg, bg, bwm, bsm, hB⟩
  have HW0 := Lib.hid hW0
  have HB := Lib.hid hB
  clear hW0 hB
  go_wp2_with fail
  have Hcut := Lib.hid hcut
  clear hcut
  refine (cut_any W0.heap.size g wm sm s w1 (by omega) (fun W hW => HG.below (HW0.bel.trans ((HB.trans hW).mono HW0.size_le))) hb hwd hsg bg HB.size).mono ?_
  rintro e w' ⟨rb, hBc, hpost⟩
  rw [Hcut.out] at hpost
  obtain rfl := hpost
  have hx := HW0.later (HB.trans (hBc))
  go_wp2_with fail
  refine leaves_cons (f := 70) (args := #[.pointer (some ⟨w.heap.size, 0, none⟩), .pointer (some ⟨w.heap.size + 1, 0, none⟩)]) (by simp) (by simp [go_sem]) ?_
  refine (caught_wrong w.heap.size (w.heap.size + 1) 0 0 (p : Int) 10 [] _ hx.1 hx.2.1 hx.2.2.1 hx.2.2.2 (by omega)).mono ?_
  rintro e u' w'' ⟨rfl, rfl, hC⟩
  have hfin := tokPost_wrong (s := s) (er := 10) (HW0.bel.trans ((HB.trans (hBc)).mono HW0.size_le)) hC (tokensL_err s hs p Hcut)
  have h1 := hC.1
  have h2 := hC.2.1
  clear hC hx
  simp [Leaves, settle, results, Tryz.results54, go_sem, h1, h2]
  exact hfin

set_option maxRecDepth 100000 in
set_option maxHeartbeats 1000000 in
theorem tokens_many (s : ByteArray) (w : World) (hs : s.size ≤ 100000) (ts : List Lex.Tok) (cs : List (Nat × Nat)) (hcut : Lex.cutL s.data.toList = .done ts cs) (hn : 20000 < ts.length) (hG : GL w) :
    Calls Tryz.prog 54 #[.string s] w (TokPost s w) := by
  have HG := Lib.hid hG
  clear hG
  go_enter_defers Tryz.func54, Tryz.ntmps54
  go_wp2_with fail
  have hW0 := two_boxes w
  generalize hW : (w.alloc (Obj.cells #[Value.int IntKind.i64 0] 3)).alloc (Obj.cells #[Value.int IntKind.i64 0] 28) = W0 at hW0 ⊢
  clear hW
  refine (newScanner_any s _ (HG.below hW0.bel)).mono ?_
  rintro e w1 ⟨g, wm, sm, rfl, hb, hwd, hsg, bg, bwm, bsm, hB⟩
  have HW0 := Lib.hid hW0
  have HB := Lib.hid hB
  clear hW0 hB
  go_wp2_with fail
  have Hcut := Lib.hid hcut
  have Hn := Lib.hid hn
  clear hcut hn
  refine (cut_any W0.heap.size g wm sm s w1 (by omega) (fun W hW => HG.below (HW0.bel.trans ((HB.trans hW).mono HW0.size_le))) hb hwd hsg bg HB.size).mono ?_
  rintro e w' ⟨rb, hBc, hpost⟩
  rw [Hcut.out] at hpost
  simp only [if_pos Hn.out] at hpost
  obtain rfl := hpost
  have hx := HW0.later (HB.trans (hBc))
  go_wp2_with fail
  refine leaves_cons (f := 70) (args := #[.pointer (some ⟨w.heap.size, 0, none⟩), .pointer (some ⟨w.heap.size + 1, 0, none⟩)]) (by simp) (by simp [go_sem]) ?_
  refine (caught_wrong w.heap.size (w.heap.size + 1) 0 0 0 2 [] _ hx.1 hx.2.1 hx.2.2.1 hx.2.2.2 (by omega)).mono ?_
  rintro e u' w'' ⟨rfl, rfl, hC⟩
  have hfin := tokPost_wrong (s := s) (er := 2) (HW0.bel.trans ((HB.trans (hBc)).mono HW0.size_le)) hC (tokensL_many s hs ts cs Hcut Hn)
  have h1 := hC.1
  have h2 := hC.2.1
  clear hC hx
  simp [Leaves, settle, results, Tryz.results54, go_sem, h1, h2]
  exact hfin

set_option maxRecDepth 100000 in
set_option maxHeartbeats 1000000 in
theorem tokens_done (s : ByteArray) (w : World) (hs : s.size ≤ 100000) (ts : List Lex.Tok) (cs : List (Nat × Nat)) (hcut : Lex.cutL s.data.toList = .done ts cs) (hn : ¬ 20000 < ts.length) (hG : GL w) :
    Calls Tryz.prog 54 #[.string s] w (TokPost s w) := by
  have HG := Lib.hid hG
  clear hG
  go_enter_defers Tryz.func54, Tryz.ntmps54
  go_wp2_with fail
  have hW0 := two_boxes w
  generalize hW : (w.alloc (Obj.cells #[Value.int IntKind.i64 0] 3)).alloc (Obj.cells #[Value.int IntKind.i64 0] 28) = W0 at hW0 ⊢
  clear hW
  refine (newScanner_any s _ (HG.below hW0.bel)).mono ?_
  rintro e w1 ⟨g, wm, sm, rfl, hb, hwd, hsg, bg, bwm, bsm, hB⟩
  have HW0 := Lib.hid hW0
  have HB := Lib.hid hB
  clear hW0 hB
  go_wp2_with fail
  have Hcut := Lib.hid hcut
  have Hn := Lib.hid hn
  clear hcut hn
  refine (cut_any W0.heap.size g wm sm s w1 (by omega) (fun W hW => HG.below (HW0.bel.trans ((HB.trans hW).mono HW0.size_le))) hb hwd hsg bg HB.size).mono ?_
  rintro e w' ⟨rb, hBc, hpost⟩
  rw [Hcut.out] at hpost
  simp only [if_neg Hn.out] at hpost
  obtain ⟨rfl, ov, cv, hS⟩ := hpost
  have hx := HW0.later (HB.trans hBc)
  have x1 := hx.1
  have x2 := hx.2.1
  have x3 := hx.2.2.1
  have x4 := hx.2.2.2
  have c4 := hS.blk.c4
  have HS := Lib.hid hS
  clear hx hS
  go_wp2_with fail
  refine leaves_cons (f := 70) (args := #[.pointer (some ⟨w.heap.size, 0, none⟩), .pointer (some ⟨w.heap.size + 1, 0, none⟩)]) (by simp) (by simp [go_sem]) ?_
  refine (caught_idle _ _ _).mono ?_
  rintro e u' w'' ⟨rfl, rfl, rfl⟩
  have y1 : w.heap.size < w'.heap.size := World.block_lt_of_cell? _ _ x1
  have y2 : w.heap.size + 1 < w'.heap.size := World.block_lt_of_cell? _ _ x3
  have hfin := tokPost_done (s := s) (HW0.bel.trans ((HB.trans hBc).mono HW0.size_le)) HS HW0.size_le HW0.heap_le (tokensL_done s hs ts cs Hcut Hn)
  simp [Leaves, settle, results, Tryz.results54, go_sem, x1, x3]
  exact hfin _ (((Chg.of_setCell _ _ _).mono (fun k _ hk => hk.1)).trans ((Chg.of_setCell _ _ _).mono (fun k _ hk => hk.2)))

/-- THE CONTRACT OF lex.Tokens. -/
theorem tokens_any (s : ByteArray) (w : World) (hs : s.size ≤ 140737488351232) (hG : GL w) :
    Calls Tryz.prog 54 #[.string s] w (TokPost s w) := by
  by_cases h1 : 100000 < s.size
  · exact tokens_long s w h1 hs hG
  · cases hc : Lex.cutL s.data.toList with
    | err p => exact tokens_err s w (by omega) p hc hG
    | done ts cs =>
      by_cases h2 : 20000 < ts.length
      · exact tokens_many s w (by omega) ts cs hc h2 hG
      · exact tokens_done s w (by omega) ts cs hc h2 hG
theorem itoa_any (n : Int) (h0 : -9223372036854775808 ≤ n) (h1 : n ≤ 9223372036854775807) (w : World) (hG : GL w) :
    Calls Tryz.prog 98 #[.int .i64 n] w fun e w' => e = .returned (.string ⟨(Lib.itoa n).toArray⟩) ∧ Below w.heap.size w w' := by
  refine (Tryz.strconv_Itoa n h0 h1 w hG.p10).mono ?_
  rintro e w' ⟨rfl, k, os, rfl⟩
  exact ⟨rfl, Lib.below_grow _ _ (Nat.le_refl _) _ _⟩
end Go.Proofs.YtjcocblohiglbaaGreatDoor
