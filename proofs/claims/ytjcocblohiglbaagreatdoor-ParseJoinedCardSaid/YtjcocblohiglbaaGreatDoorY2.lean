/- Two behaviours in brackets, joined: what is read, level by level. Conditions: none. -/
import Derived.Test.YtjcocblohiglbaaGreatDoorY1
namespace Go.Proofs.YtjcocblohiglbaaGreatDoor
open Go.Dp
set_option linter.unusedVariables false
set_option linter.unusedSimpArgs false
section
variable {tx : ByteArray} {T : List Tk} {m pos : Nat} {ex : List (Nat × Nat)} {x : Nd} {q : Nat} {e : List (Nat × Nat)}
theorem up01 (n1 : isT (tokAt T q) ⟨#[91, 93]⟩ = false) (h : pB tx T m 0 pos ex = .ok x q e) : pB tx T (m + 1) 1 pos ex = .ok x q e := by
  rw [pB, pSum, h]
  dsimp only [Res.bnd]
  rw [n1, if_neg (by simp)]
theorem up12 (n2 : isT (tokAt T q) ⟨#[124, 124, 124]⟩ = false) (n3 : isT (tokAt T q) ⟨#[124, 124]⟩ = false) (n4 : isT (tokAt T q) ⟨#[124, 91]⟩ = false) (h : pB tx T m 1 pos ex = .ok x q e) : pB tx T (m + 1) 2 pos ex = .ok x q e := by
  rw [pB, pParts, h]
  dsimp only [Res.bnd]
  rw [n2, n3, n4, if_neg (by simp), if_neg (by simp), if_neg (by simp)]
theorem up23 (n5 : isT (tokAt T q) ⟨#[91, 62]⟩ = false) (h : pB tx T m 2 pos ex = .ok x q e) : pB tx T (m + 1) 3 pos ex = .ok x q e := by
  rw [pB, pDis, h]
  dsimp only [Res.bnd]
  rw [n5, if_neg (by simp)]
theorem up34 (n6 : isT (tokAt T q) ⟨#[62, 62]⟩ = false) (h : pB tx T m 3 pos ex = .ok x q e) : pB tx T (m + 1) 4 pos ex = .ok x q e := by
  rw [pB, pBeh, h]
  dsimp only [Res.bnd]
  rw [n6, if_neg (by simp)]
end
/-- A behaviour in brackets within a text. -/
theorem paren_read {T T' : List Tk} {tx tx' : ByteArray} {c : Nat} {cx : Int} (hw : Win T T' ((c : Int) + 1) 0 T.length) (hlp : isT (tokAt T' c) ⟨#[40]⟩ = true) (hrp : isT (tokAt T' (c + 1 + T.length)) ⟨#[41]⟩ = true) {n0 : Nd} {ex ex' : List (Nat × Nat)}
    (hr : pB tx T (8 * T.length + 8) 4 0 [] = .ok n0 T.length ex) (hx : (ex'.length : Int) = cx) {m : Nat} (hm : 8 * T.length + 6 ≤ m) : ∃ x' e', ExR ((c : Int) + 1) cx 0 T.length [] ex' ex e' ∧ lk cx n0 x' ∧ x'.kind ≠ -1 ∧ pB tx' T' m 0 c ex' = .ok x' (c + T.length + 2) e' := by
  obtain ⟨m, rfl⟩ : ∃ j, m = j + 1 := ⟨m - 1, by omega⟩
  obtain ⟨x', q', e', h1, h2, h3, h4⟩ := pB_s (cx := cx) (B := []) (B' := ex') tx tx' hw (8 * T.length + 8) 4 m 0 (Nat.le_refl _) (by omega) 0 (c + 1) [] ex' n0 _ ex (Nat.le_refl _) (Nat.le_refl _) (Nat.zero_le _) (Nat.le_refl _) (by omega) (.base (by simpa using hx)) hr (Nat.le_refl _)
  obtain rfl : q' = c + 1 + T.length := by omega
  have hk := kd_pB tx' T' _ _ _ _ _ _ _ h1
  refine ⟨_, e', h4, lk_side (b := here tx' T' c) (e := behind T' (c + 1 + T.length + 1)) h3, hk, ?_⟩
  rw [pB, pPre, isT_ne hlp (by decide), if_neg (by simp), if_pos hlp, pParen, h1]
  dsimp only [Res.bnd]
  rw [if_pos hrp, show c + 1 + T.length + 1 = c + T.length + 2 by omega]
section
variable {tx : ByteArray} {T : List Tk} {K q0 qe : Nat} {e1 e2 : List (Nat × Nat)} {X1 X2 : Nd} (L0 : pB tx T (K + 1) 0 0 [] = .ok X1 q0 e1) (hd : Dull (tokAt T qe))
include L0 hd
theorem join_choice (R0 : pB tx T K 0 (q0 + 1) e1 = .ok X2 qe e2) (ht : isT (tokAt T q0) ⟨#[91, 93]⟩ = true) : ∃ b e, pB tx T (K + 5) 4 0 [] = .ok (.mk 23 0 ⟨#[]⟩ [X1, X2] b e) qe e2 := by
  have r1 := up01 (hd.no (by decide)) R0
  have h : ∃ b e, pB tx T (K + 2) 1 0 [] = .ok (.mk 23 0 ⟨#[]⟩ [X1, X2] b e) qe e2 := by
    rw [pB, pSum, L0]
    dsimp only [Res.bnd]
    rw [if_pos ht, r1]
    exact ⟨_, _, rfl⟩
  obtain ⟨b, e, h⟩ := h
  exact ⟨b, e, lift_up hd 1 (by omega) h⟩
theorem join_disable (R0 : pB tx T K 0 (q0 + 1) e1 = .ok X2 qe e2) (ht : isT (tokAt T q0) ⟨#[91, 62]⟩ = true) : ∃ b e, pB tx T (K + 5) 4 0 [] = .ok (.mk 27 0 ⟨#[]⟩ [X1, X2] b e) qe e2 := by
  have r1 := up23 (hd.no (by decide)) (up12 (hd.no (by decide)) (hd.no (by decide)) (hd.no (by decide)) (up01 (hd.no (by decide)) R0))
  have l1 := up12 (isT_ne ht (by decide)) (isT_ne ht (by decide)) (isT_ne ht (by decide)) (up01 (isT_ne ht (by decide)) L0)
  have h : ∃ b e, pB tx T (K + 4) 3 0 [] = .ok (.mk 27 0 ⟨#[]⟩ [X1, X2] b e) qe e2 := by
    rw [pB, pDis, l1]
    dsimp only [Res.bnd]
    rw [if_pos ht, r1]
    exact ⟨_, _, rfl⟩
  obtain ⟨b, e, h⟩ := h
  exact ⟨b, e, lift_up hd 3 (by omega) h⟩
theorem join_enable (R0 : pB tx T K 0 (q0 + 1) e1 = .ok X2 qe e2) (ht : isT (tokAt T q0) ⟨#[62, 62]⟩ = true) (hn : isT (tokAt T (q0 + 1)) ⟨#[97, 99, 99, 101, 112, 116]⟩ = false) : ∃ b e p, pB tx T (K + 5) 4 0 [] = .ok (.mk 26 0 ⟨#[]⟩ [emptyAt p, X1, X2] b e) qe e2 := by
  have r1 := up34 (hd.no (by decide)) (up23 (hd.no (by decide)) (up12 (hd.no (by decide)) (hd.no (by decide)) (hd.no (by decide)) (up01 (hd.no (by decide)) R0)))
  have l1 := up23 (isT_ne ht (by decide)) (up12 (isT_ne ht (by decide)) (isT_ne ht (by decide)) (isT_ne ht (by decide)) (up01 (isT_ne ht (by decide)) L0))
  rw [pB, pBeh, l1]
  dsimp only [Res.bnd]
  rw [if_pos ht, hn, if_neg (by simp), r1]
  exact ⟨_, _, _, rfl⟩
theorem join_par (R0 : pB tx T K 0 (q0 + 1) e1 = .ok X2 qe e2) (ht : isT (tokAt T q0) ⟨#[124, 124, 124]⟩ = true) : ∃ b e p, pB tx T (K + 5) 4 0 [] = .ok (.mk 24 0 ⟨#[124, 124, 124]⟩ [emptyAt p, X1, X2] b e) qe e2 := by
  have r1 := up12 (hd.no (by decide)) (hd.no (by decide)) (hd.no (by decide)) (up01 (hd.no (by decide)) R0)
  have l1 := up01 (isT_ne ht (by decide)) L0
  have hs := (isT_kind ht).2
  have h : ∃ b e p, pB tx T (K + 3) 2 0 [] = .ok (.mk 24 0 ⟨#[124, 124, 124]⟩ [emptyAt p, X1, X2] b e) qe e2 := by
    rw [pB, pParts, l1]
    dsimp only [Res.bnd]
    rw [if_pos ht, r1, hs]
    exact ⟨_, _, _, rfl⟩
  obtain ⟨b, e, p, h⟩ := h
  exact ⟨b, e, p, lift_up hd 2 (by omega) h⟩
theorem join_gates (R0 : pB tx T K 0 (q0 + 5) e1 = .ok X2 qe e2) (ht : isT (tokAt T q0) ⟨#[124, 91]⟩ = true) (hg : (tokAt T (q0 + 1)).kind = 1 ∧ (tokAt T (q0 + 1)).s = ⟨#[103]⟩) (hc : isT (tokAt T (q0 + 2)) ⟨#[44]⟩ = true) (hh : (tokAt T (q0 + 3)).kind = 1 ∧ (tokAt T (q0 + 3)).s = ⟨#[104]⟩) (he : isT (tokAt T (q0 + 4)) ⟨#[93, 124]⟩ = true) :
    ∃ b e N, same N (.mk 8 0 ⟨#[]⟩ [.mk 7 0 ⟨#[103]⟩ [] 0 0, .mk 7 0 ⟨#[104]⟩ [] 0 0] 0 0) = true ∧ pB tx T (K + 5) 4 0 [] = .ok (.mk 24 0 ⟨#[124, 91]⟩ [N, X1, X2] b e) qe e2 := by
  have r1 := up12 (hd.no (by decide)) (hd.no (by decide)) (hd.no (by decide)) (up01 (hd.no (by decide)) R0)
  have l1 := up01 (isT_ne ht (by decide)) L0
  have hs := (isT_kind ht).2
  have hlt := isT_lt he
  have hN : ∃ N, pNames tx T (q0 + 1) e1 = .ok N (q0 + 4) e1 ∧ same N (.mk 8 0 ⟨#[]⟩ [.mk 7 0 ⟨#[103]⟩ [] 0 0, .mk 7 0 ⟨#[104]⟩ [] 0 0] 0 0) = true := by
    obtain ⟨j, hj⟩ : ∃ j, T.length + 1 = j + 2 := ⟨T.length - 1, by omega⟩
    rw [pNames, pRows, pName, if_pos hg.1]
    dsimp only
    rw [hj, pRowsL, show q0 + 1 + 1 = q0 + 2 from rfl, if_pos (show isT (tokAt T (q0 + 2)) cm = true from hc), pName, show q0 + 2 + 1 = q0 + 3 from rfl, if_pos hh.1]
    dsimp only
    rw [pRowsL, show q0 + 3 + 1 = q0 + 4 from rfl, (show isT (tokAt T (q0 + 4)) cm = false from isT_ne he (by decide)), if_neg (by simp)]
    dsimp only [Res.bnd]
    refine ⟨_, rfl, ?_⟩
    rw [hg.2, hh.2]
    rfl
  obtain ⟨N, hN, hNs⟩ := hN
  have h : ∃ b e, pB tx T (K + 3) 2 0 [] = .ok (.mk 24 0 ⟨#[124, 91]⟩ [N, X1, X2] b e) qe e2 := by
    rw [pB, pParts, l1]
    dsimp only [Res.bnd]
    rw [isT_ne ht (by decide), isT_ne ht (by decide), if_neg (by simp), if_neg (by simp), if_pos ht, hN]
    dsimp only
    rw [if_pos he, r1, hs]
    exact ⟨_, _, rfl⟩
  obtain ⟨b, e, h⟩ := h
  exact ⟨b, e, N, hNs, lift_up hd 2 (by omega) h⟩
end
end Go.Proofs.YtjcocblohiglbaaGreatDoor
/- Two behaviours in brackets, joined by a sign: the tokens, both readings, and what the whole comes to. Conditions: none. -/
namespace Go.Proofs.YtjcocblohiglbaaGreatDoor
open Go.Dp
set_option linter.unusedVariables false
set_option linter.unusedSimpArgs false
def joinT (a g b : ByteArray) : ByteArray := (((((⟨#[40, 32]⟩ ++ a) ++ ⟨#[32, 41, 32]⟩) ++ g) ++ ⟨#[32, 40, 32]⟩) ++ b) ++ ⟨#[32, 41]⟩
theorem joinT_list (a g b : ByteArray) : (joinT a g b).data.toList = [40] ++ 32 :: (a.data.toList ++ 32 :: ([41] ++ 32 :: (g.data.toList ++ 32 :: ([40] ++ 32 :: (b.data.toList ++ 32 :: [41]))))) := by simp [joinT, ByteArray.data_append]
theorem joinT_size (a g b : ByteArray) : (joinT a g b).size = a.size + g.size + b.size + 10 := by
  simp only [joinT, ByteArray.size_append]
  show 2 + a.size + 3 + g.size + 3 + b.size + 2 = _
  omega
theorem by_by (m n : Nat) (ts : List Lex.Tok) : (ts.map (Lex.Tok.by m)).map (Lex.Tok.by n) = ts.map (Lex.Tok.by (m + n)) := by
  rw [List.map_map]
  refine List.map_congr_left fun t _ => ?_
  show (⟨t.kind, t.n, t.s, t.b + m + n, t.e + m + n⟩ : Lex.Tok) = ⟨t.kind, t.n, t.s, t.b + (m + n), t.e + (m + n)⟩
  rw [Nat.add_assoc, Nat.add_assoc]
theorem toTk_by (d : Nat) (ts : List Lex.Tok) : (ts.map (Lex.Tok.by d)).map toTk = (ts.map toTk).map (shT d) := by
  rw [List.map_map, List.map_map]
  rfl
theorem lx_join {a g b : ByteArray} {tg : List Lex.Tok} {cg : List (Nat × Nat)} (za : a.size ≤ 1000) (zg : g.size ≤ 10) (zb : b.size ≤ 1000) (hg : Lex.cutL g.data.toList = .done tg cg) (ea : (lxP a).2.2 = 0) (eb : (lxP b).2.2 = 0) :
    ∃ d1 d2 d3 z0 z1 z2 z3, isT z0 ⟨#[40]⟩ = true ∧ isT z1 ⟨#[41]⟩ = true ∧ isT z2 ⟨#[40]⟩ = true ∧ isT z3 ⟨#[41]⟩ = true ∧ lxP (joinT a g b) = (z0 :: ((lxP a).1.map (shT d1) ++ z1 :: ((tg.map toTk).map (shT d2) ++ z2 :: ((lxP b).1.map (shT d3) ++ [z3]))), 0, 0) := by
  obtain ⟨ta, ca, ha, hA⟩ := lx_ok (by omega) ea
  obtain ⟨tb, cb, hb, hB⟩ := lx_ok (by omega) eb
  have h6 := show Lex.cutL [41] = .done [⟨5, 0, [41], 0, 1⟩] [] by decide +kernel
  have h7 := show Lex.cutL [40] = .done [⟨5, 0, [40], 0, 1⟩] [] by decide +kernel
  have h5 := Lex.cut_both (x := 32) (by decide) hb h6
  have h4 := Lex.cut_both (x := 32) (by decide) h7 h5
  have h3 := Lex.cut_both (x := 32) (by decide) hg h4
  have h2 := Lex.cut_both (x := 32) (by decide) h6 h3
  have h1 := Lex.cut_both (x := 32) (by decide) ha h2
  have h0 := Lex.cut_both (x := 32) (by decide) h7 h1
  rw [← joinT_list] at h0
  have h := lx_done (by rw [joinT_size]; omega) h0
  rw [hA, hB, h]
  simp only [List.map_append, List.map_cons, List.map_nil, by_by, toTk_by, List.cons_append, List.nil_append]
  exact ⟨_, _, _, _, _, _, _, rfl, rfl, rfl, rfl, rfl⟩
theorem tokAt_pre {pre U : List Tk} {c p : Nat} (h : pre.length = c) : tokAt (pre ++ U) (c + p) = tokAt U p := by
  rw [tokAt_right (by omega), h, Nat.add_sub_cancel_left]
theorem mid_win {pre post T : List Tk} {z : Tk} {c d : Nat} (hp : pre.length = c + 1) (hz : isT z ⟨#[41]⟩ = true) : Win T (pre ++ (T.map (shT d) ++ z :: post)) ((c : Int) + 1) 0 T.length := by
  have hl : (T.map (shT d)).length = T.length := List.length_map ..
  refine ⟨fun p p' h1 h2 h3 => ?_, fun p' h3 => ?_, ?_, by omega⟩
  · obtain rfl : p' = (c + 1) + p := by omega
    rw [tokAt_pre hp, tokAt_left (by omega), tokAt_map h2]
    exact shT_like d _
  · obtain rfl : p' = (c + 1) + T.length := by omega
    rw [tokAt_pre hp, tokAt_right (by omega), hl, Nat.sub_self]
    exact dull_rp hz
  · simp only [List.length_cons, List.length_append, hl]
    omega
theorem slvs_we {T : List Tk} {A F : List (ByteArray × Mx)} {e : List (Nat × Nat)} {vs : List Nd} (h : Slvs T A F e vs) : We (fun i => cnt (vs.getD i default)) e := by
  induction h with
  | nil => intro i y hi; simp at hi
  | cons x l v vs z h hs ih =>
    intro i y hi
    cases i with
    | zero =>
      have := sSolve_few T A F x
      rw [h] at this
      obtain rfl : x = y := by simpa using hi
      exact this
    | succ i => exact ih i y (by simpa using hi)
mutual
theorem same_symm : ∀ (x y : Nd), same x y = true → same y x = true
  | .mk k n s l b e, .mk k' n' s' l' b' e', h => by
    rw [same] at h ⊢
    simp only [Bool.and_eq_true, decide_eq_true_eq] at h ⊢
    exact ⟨⟨⟨h.1.1.1.symm, h.1.1.2.symm⟩, h.1.2.symm⟩, sames_symm l l' h.2⟩
theorem sames_symm : ∀ (l m : List Nd), sames l m = true → sames m l = true
  | [], [], _ => rfl
  | x :: l, y :: m, h => by
    rw [sames] at h ⊢
    simp only [Bool.and_eq_true] at h ⊢
    exact ⟨same_symm x y h.1, sames_symm l m h.2⟩
  | [], _ :: _, h => by rw [sames] at h; cases h
  | _ :: _, [], h => by rw [sames] at h; cases h
end
mutual
theorem same_fill (es : List Nd) : ∀ (x y : Nd), same x y = true → Pend 0 y → same (fill es x) y = true
  | .mk k n s l b e, .mk k' n' s' l' b' e', h, hp => by
    rw [Pend] at hp
    rw [same] at h
    simp only [Bool.and_eq_true, decide_eq_true_eq] at h
    rw [fill, if_neg (fun hk => by have := hp.1 (by omega); omega), same]
    simp only [Bool.and_eq_true, decide_eq_true_eq]
    exact ⟨h.1, sames_fill es l l' h.2 hp.2⟩
theorem sames_fill (es : List Nd) : ∀ (l m : List Nd), sames l m = true → Pends 0 m → sames (fills es l) m = true
  | [], [], _, _ => rfl
  | x :: l, y :: m, h, hp => by
    rw [Pends] at hp
    rw [sames] at h
    simp only [Bool.and_eq_true] at h
    rw [fills, sames]
    simp only [Bool.and_eq_true]
    exact ⟨same_fill es x y h.1 hp.1, sames_fill es l m h.2 hp.2⟩
  | [], _ :: _, h, _ => by rw [sames] at h; cases h
  | _ :: _, [], h, _ => by rw [sames] at h; cases h
end
theorem fills_append (es : List Nd) : ∀ (l m : List Nd), fills es (l ++ m) = fills es l ++ fills es m
  | [], m => by rw [List.nil_append, fills]; rfl
  | x :: l, m => by rw [List.cons_append, fills, fills, fills_append es l m]; rfl
/-- Both readings. -/
theorem join_both {ops : List Mx} {a g b : ByteArray} {tg : List Lex.Tok} {cg : List (Nat × Nat)} (za : a.size ≤ 1000) (zg : g.size ≤ 10) (zb : b.size ≤ 1000) (hg : Lex.cutL g.data.toList = .done tg cg) (lg : tg.length ≤ 10) {na nb : Nd} {pa pb : Int} (ha : givenP lxP pBehaviour kdP ops a = ⟨na, pa, 0⟩) (hb : givenP lxP pBehaviour kdP ops b = ⟨nb, pb, 0⟩) :
    ∃ T' K q0 X1 X2 e1 e2 vs, lxP (joinT a g b) = (T', 0, 0) ∧ T'.length ≤ 3000 ∧ K + 5 = 8 * T'.length + 8 ∧ (∀ i, i < tg.length → LikeT (tokAt (tg.map toTk) i) (tokAt T' (q0 + i))) ∧ pB (joinT a g b) T' (K + 1) 0 0 [] = .ok X1 q0 e1 ∧ pB (joinT a g b) T' K 0 (q0 + tg.length) e1 = .ok X2 T'.length e2 ∧
      Slvs T' (tabM true ops) (tabM false ops) e2 vs ∧ same na (fill vs X1) = true ∧ same nb (fill vs X2) = true ∧ apartM kdP ops = true ∧ isT (tokAt T' (q0 + tg.length)) ⟨#[40]⟩ = true := by
  obtain ⟨hap, hea, -, n1, q1, ex1, es1, hr1, hq1, hs1, hn1, hc1, hd1⟩ := given_ok ha
  obtain ⟨-, heb, -, n2, q2, ex2, es2, hr2, hq2, hs2, hn2, hc2, hd2⟩ := given_ok hb
  obtain ⟨d1, d2, d3, z0, z1, z2, z3, i0, i1, i2, i3, hlx⟩ := lx_join za zg zb hg hea heb
  have la : (lxP a).1.length ≤ a.size := by
    obtain ⟨ts, cs, k1, k2⟩ := lx_ok (by omega) hea
    have := (runs_few (Lex.cut_done k1)).1
    have h2 := (runs_few (Lex.cut_done k1)).2
    have hl : a.data.toList.length = a.size := Array.length_toList
    rw [k2]
    simp only [List.length_map, List.length_nil] at *
    omega
  have lb : (lxP b).1.length ≤ b.size := by
    obtain ⟨ts, cs, k1, k2⟩ := lx_ok (by omega) heb
    have := (runs_few (Lex.cut_done k1)).1
    have h2 := (runs_few (Lex.cut_done k1)).2
    have hl : b.data.toList.length = b.size := Array.length_toList
    rw [k2]
    simp only [List.length_map, List.length_nil] at *
    omega
  generalize (lxP a).1 = Ta at hr1 hq1 hs1 hlx la
  generalize (lxP b).1 = Tb at hr2 hq2 hs2 hlx lb
  unfold pBehaviour at hr1 hr2
  have w1 := wfe (pB_wf a Ta _ 4 0 [] (Nat.zero_le _) (Nat.le_refl _)) hr1
  have w2 := wfe (pB_wf b Tb _ 4 0 [] (Nat.zero_le _) (Nat.le_refl _)) hr2
  have v1 := pB_inv a Ta (8 * Ta.length + 8) 4 (Nat.le_refl _) 0 [] (fun x hx => by cases hx)
  have v2 := pB_inv b Tb (8 * Tb.length + 8) 4 (Nat.le_refl _) 0 [] (fun x hx => by cases hx)
  rw [hr1] at v1
  rw [hr2] at v2
  obtain rfl : q1 = Ta.length := by omega
  obtain rfl : q2 = Tb.length := by omega
  have hG : ((tg.map toTk).map (shT d2)).length = tg.length := by simp
  have hTa : (Ta.map (shT d1)).length = Ta.length := List.length_map ..
  generalize hT' : z0 :: (Ta.map (shT d1) ++ z1 :: ((tg.map toTk).map (shT d2) ++ z2 :: (Tb.map (shT d3) ++ [z3]))) = T' at hlx
  have f1 : T' = [z0] ++ (Ta.map (shT d1) ++ z1 :: ((tg.map toTk).map (shT d2) ++ z2 :: (Tb.map (shT d3) ++ [z3]))) := hT'.symm
  have f2 : T' = (z0 :: (Ta.map (shT d1) ++ z1 :: ((tg.map toTk).map (shT d2) ++ [z2]))) ++ (Tb.map (shT d3) ++ z3 :: []) := by
    rw [← hT']
    simp only [List.append_assoc, List.cons_append, List.nil_append]
  have f3 : T' = (z0 :: (Ta.map (shT d1) ++ [z1])) ++ ((tg.map toTk).map (shT d2) ++ z2 :: (Tb.map (shT d3) ++ [z3])) := by
    rw [← hT']
    simp only [List.append_assoc, List.cons_append, List.nil_append]
  have hlen : T'.length = Ta.length + tg.length + Tb.length + 4 := by
    rw [← hT']
    simp only [List.length_cons, List.length_append, List.length_map, List.length_nil]
    omega
  have p3 : (z0 :: (Ta.map (shT d1) ++ [z1])).length = Ta.length + 2 := by simp
  have p2 : (z0 :: (Ta.map (shT d1) ++ z1 :: ((tg.map toTk).map (shT d2) ++ [z2]))).length = (Ta.length + 2 + tg.length) + 1 := by
    simp only [List.length_cons, List.length_append, List.length_map, List.length_nil]
    omega
  have win1 : Win Ta T' (((0 : Nat) : Int) + 1) 0 Ta.length := by rw [f1]; exact mid_win rfl i1
  have win2 : Win Tb T' (((Ta.length + 2 + tg.length : Nat) : Int) + 1) 0 Tb.length := by rw [f2]; exact mid_win p2 i3
  have t0 : tokAt T' 0 = z0 := by rw [← hT']; rfl
  have t1 : tokAt T' (0 + 1 + Ta.length) = z1 := by
    rw [f1, tokAt_pre (c := 0 + 1) rfl, tokAt_right (by omega), hTa, Nat.sub_self]
    rfl
  have t2 : tokAt T' (Ta.length + 2 + tg.length) = z2 := by
    rw [f3, tokAt_pre p3, tokAt_right (by omega), hG, Nat.sub_self]
    rfl
  have t3 : tokAt T' (Ta.length + 2 + tg.length + 1 + Tb.length) = z3 := by
    rw [f2, tokAt_pre p2, tokAt_right (by simp), List.length_map, Nat.sub_self]
    rfl
  have tG : ∀ i, i < tg.length → LikeT (tokAt (tg.map toTk) i) (tokAt T' (Ta.length + 2 + i)) := fun i hi => by
    rw [f3, tokAt_pre p3, tokAt_left (by omega), tokAt_map (by simpa using hi)]
    exact shT_like d2 _
  clear f1 f2 f3 p3 p2 hT'
  obtain ⟨X1, e1, E1, k1, _, L0⟩ := paren_read (tx' := joinT a g b) (m := 8 * T'.length + 4) (ex' := []) (cx := 0) win1 (by rw [t0]; exact i0) (by rw [t1]; exact i1) hr1 rfl (by omega)
  obtain ⟨X2, e2, E2, k2, _, R0⟩ := paren_read (tx' := joinT a g b) (m := 8 * T'.length + 3) (ex' := e1) (cx := e1.length) win2 (by rw [t2]; exact i2) (by rw [t3]; exact i3) hr2 rfl (by omega)
  have u1 := pB_inv (joinT a g b) T' (8 * T'.length + 4) 0 (by omega) 0 [] (fun x hx => by cases hx)
  rw [L0] at u1
  have u2 := pB_inv (joinT a g b) T' (8 * T'.length + 3) 0 (by omega) (Ta.length + 2 + tg.length) e1 u1.1
  rw [R0] at u2
  obtain ⟨vB, sB, -, m1⟩ := exr_slvs win1 E1 .nil hs1
  obtain ⟨vs, sV, ⟨r, hr⟩, m2⟩ := exr_slvs win2 E2 sB hs2
  have lB := sB.len
  have r1 := fill_s (cx := 0) (es := es1) (es' := vs) (m := ex1.length) (m' := e1.length) (fun i h1 h2 h3 => by
    have := m1 i (Nat.zero_le _) h1
    rw [show ((i : Int) + 0).toNat = i by omega] at this ⊢
    rw [hr]
    simp only [List.getD_eq_getElem?_getD] at this ⊢
    rw [List.getElem?_append_left (by omega)]
    exact this) n1 X1 k1 v1.2.2.1 u1.2.2.1
  have r2 := fill_s (cx := (e1.length : Int)) (es := es2) (es' := vs) (m := ex2.length) (m' := e2.length) (fun i h1 h2 h3 => m2 i (Nat.zero_le _) h1) n2 X2 k2 v2.2.2.1 u2.2.2.1
  refine ⟨T', 8 * T'.length + 3, Ta.length + 2, X1, X2, e1, e2, vs, hlx, by omega, rfl, tG, ?_, ?_, sV, by rw [hn1]; exact r1, by rw [hn2]; exact r2, hap, by rw [t2]; exact i2⟩
  · rw [show 0 + Ta.length + 2 = Ta.length + 2 by omega] at L0
    exact L0
  · rw [show Ta.length + 2 + tg.length + Tb.length + 2 = T'.length by omega] at R0
    exact R0
/-- What the whole comes to. -/
theorem join_end {ops : List Mx} {J : ByteArray} {T' : List Tk} {K : Nat} {k : Int} {s : ByteArray} {N N0 : List Nd} {X1 X2 na nb : Nd} {b e : Int} {e2 : List (Nat × Nat)} {vs : List Nd} (hlx : lxP J = (T', 0, 0)) (hl : T'.length ≤ 3000) (hK : K + 5 = 8 * T'.length + 8) (h : pB J T' (K + 5) 4 0 [] = .ok (.mk k 0 s (N ++ [X1, X2]) b e) T'.length e2) (hs : Slvs T' (tabM true ops) (tabM false ops) e2 vs)
    (h1 : same na (fill vs X1) = true) (h2 : same nb (fill vs X2) = true) (hap : apartM kdP ops = true) (hk : k ≠ -1) (hN : sames N N0 = true) (hP : Pends 0 N0) (hd : deps N0 ≤ 100) (d1 : dep na ≤ 300) (d2 : dep nb ≤ 300) :
    ∃ m, givenP lxP pBehaviour kdP ops J = ⟨m, 0, 0⟩ ∧ same m (.mk k 0 s (N0 ++ [na, nb]) 0 0) = true := by
  have hf : fill vs (.mk k 0 s (N ++ [X1, X2]) b e) = .mk k 0 s (fills vs N ++ [fill vs X1, fill vs X2]) b e := by
    rw [fill, if_neg hk, fills_append, fills, fills, fills]
  have hS : same (fill vs (.mk k 0 s (N ++ [X1, X2]) b e)) (.mk k 0 s (N0 ++ [na, nb]) 0 0) = true := by
    rw [hf]
    exact same_mk (sames_append (sames_fill vs N N0 hN hP) (by rw [sames, sames, same_symm _ _ h1, same_symm _ _ h2]; rfl))
  have hD : dep (fill vs (.mk k 0 s (N ++ [X1, X2]) b e)) ≤ 400 := by
    rw [(same_cnt _ _ hS).2, dep, deps_append, deps, deps, deps]
    omega
  have hC : cnt (fill vs (.mk k 0 s (N ++ [X1, X2]) b e)) ≤ 60000 := by
    have := (pB_c (T := T') (w := fun i => cnt (vs.getD i default)) J (K + 5) 4 (Nat.le_refl _) 0 [] _ _ _ (Nat.zero_le _) (Nat.le_refl _) h).2 (slvs_we hs)
    rw [cnt_fill]
    omega
  refine ⟨_, given_of (tx := J) (rule := pBehaviour) hap (by rw [hlx]) (by rw [hlx]; unfold pBehaviour; dsimp only; rw [← hK]; exact h) (by rw [hlx]; exact Nat.le_refl _) (by rw [hlx]; exact hs) hC hD, hS⟩
end Go.Proofs.YtjcocblohiglbaaGreatDoor
/- Two behaviours in brackets, joined: by each of the five signs. Conditions: none. -/
namespace Go.Proofs.YtjcocblohiglbaaGreatDoor
open Go.Dp
set_option linter.unusedVariables false
set_option linter.unusedSimpArgs false
/-- What the law asks of a joined reading. -/
def Joined (ops : List Mx) (a b g : ByteArray) (want : Nd → Nd → Nd) : Prop := ∀ x p y q, givenP lxP pBehaviour kdP ops a = ⟨x, p, 0⟩ → givenP lxP pBehaviour kdP ops b = ⟨y, q, 0⟩ → dep x ≤ 300 → dep y ≤ 300 → ∃ m, givenP lxP pBehaviour kdP ops (joinT a g b) = ⟨m, 0, 0⟩ ∧ same m (want x y) = true
theorem LikeT.is {t u : Tk} {s : ByteArray} (h : LikeT t u) (k : isT t s = true) : isT u s = true := by
  rw [← h.sg]
  exact k
section
variable {ops : List Mx} {a b : ByteArray} (za : a.size ≤ 1000) (zb : b.size ≤ 1000)
include za zb
theorem joined0 : Joined ops a b ⟨#[91, 93]⟩ fun x y => .mk 23 0 ⟨#[]⟩ [x, y] 0 0 := by
  intro x p y q ha hb da db
  obtain ⟨T', K, q0, X1, X2, e1, e2, vs, hlx, hl, hK, tG, L0, R0, hs, h1, h2, hap, -⟩ := join_both (g := ⟨#[91, 93]⟩) za (by decide) zb (show Lex.cutL [91, 93] = .done [⟨5, 0, [91, 93], 0, 2⟩] [] by decide +kernel) (by decide) ha hb
  obtain ⟨_, _, h⟩ := join_choice L0 (by rw [tokAt_end (Nat.le_refl _)]; exact dull_no) R0 ((tG 0 (by decide)).is rfl)
  exact join_end (N := []) (N0 := []) hlx hl hK h hs h1 h2 hap (by decide) rfl (by rw [Pends]; trivial) (by decide) da db
theorem joined1 : Joined ops a b ⟨#[91, 62]⟩ fun x y => .mk 27 0 ⟨#[]⟩ [x, y] 0 0 := by
  intro x p y q ha hb da db
  obtain ⟨T', K, q0, X1, X2, e1, e2, vs, hlx, hl, hK, tG, L0, R0, hs, h1, h2, hap, -⟩ := join_both (g := ⟨#[91, 62]⟩) za (by decide) zb (show Lex.cutL [91, 62] = .done [⟨5, 0, [91, 62], 0, 2⟩] [] by decide +kernel) (by decide) ha hb
  obtain ⟨_, _, h⟩ := join_disable L0 (by rw [tokAt_end (Nat.le_refl _)]; exact dull_no) R0 ((tG 0 (by decide)).is rfl)
  exact join_end (N := []) (N0 := []) hlx hl hK h hs h1 h2 hap (by decide) rfl (by rw [Pends]; trivial) (by decide) da db
theorem joined2 : Joined ops a b ⟨#[62, 62]⟩ fun x y => .mk 26 0 ⟨#[]⟩ [.mk 8 0 ⟨#[]⟩ [] 0 0, x, y] 0 0 := by
  intro x p y q ha hb da db
  obtain ⟨T', K, q0, X1, X2, e1, e2, vs, hlx, hl, hK, tG, L0, R0, hs, h1, h2, hap, hz⟩ := join_both (g := ⟨#[62, 62]⟩) za (by decide) zb (show Lex.cutL [62, 62] = .done [⟨5, 0, [62, 62], 0, 2⟩] [] by decide +kernel) (by decide) ha hb
  obtain ⟨_, _, p, h⟩ := join_enable L0 (by rw [tokAt_end (Nat.le_refl _)]; exact dull_no) R0 ((tG 0 (by decide)).is rfl) (isT_ne hz (by decide))
  exact join_end (N := [emptyAt p]) (N0 := [.mk 8 0 ⟨#[]⟩ [] 0 0]) hlx hl hK h hs h1 h2 hap (by decide) rfl (by rw [Pends, Pends, Pend, Pends]; exact ⟨⟨fun h => by omega, trivial⟩, trivial⟩) (by decide) da db
theorem joined3 : Joined ops a b ⟨#[124, 124, 124]⟩ fun x y => .mk 24 0 ⟨#[124, 124, 124]⟩ [.mk 8 0 ⟨#[]⟩ [] 0 0, x, y] 0 0 := by
  intro x p y q ha hb da db
  obtain ⟨T', K, q0, X1, X2, e1, e2, vs, hlx, hl, hK, tG, L0, R0, hs, h1, h2, hap, -⟩ := join_both (g := ⟨#[124, 124, 124]⟩) za (by decide) zb (show Lex.cutL [124, 124, 124] = .done [⟨5, 0, [124, 124, 124], 0, 3⟩] [] by decide +kernel) (by decide) ha hb
  obtain ⟨_, _, p, h⟩ := join_par L0 (by rw [tokAt_end (Nat.le_refl _)]; exact dull_no) R0 ((tG 0 (by decide)).is rfl)
  exact join_end (N := [emptyAt p]) (N0 := [.mk 8 0 ⟨#[]⟩ [] 0 0]) hlx hl hK h hs h1 h2 hap (by decide) rfl (by rw [Pends, Pends, Pend, Pends]; exact ⟨⟨fun h => by omega, trivial⟩, trivial⟩) (by decide) da db
theorem joined4 : Joined ops a b ⟨#[124, 91, 103, 44, 32, 104, 93, 124]⟩ fun x y => .mk 24 0 ⟨#[124, 91]⟩ [.mk 8 0 ⟨#[]⟩ [.mk 7 0 ⟨#[103]⟩ [] 0 0, .mk 7 0 ⟨#[104]⟩ [] 0 0] 0 0, x, y] 0 0 := by
  intro x p y q ha hb da db
  obtain ⟨T', K, q0, X1, X2, e1, e2, vs, hlx, hl, hK, tG, L0, R0, hs, h1, h2, hap, -⟩ := join_both (g := ⟨#[124, 91, 103, 44, 32, 104, 93, 124]⟩) za (by decide) zb (show Lex.cutL [124, 91, 103, 44, 32, 104, 93, 124] = .done [⟨5, 0, [124, 91], 0, 2⟩, ⟨1, 0, [103], 2, 3⟩, ⟨5, 0, [44], 3, 4⟩, ⟨1, 0, [104], 5, 6⟩, ⟨5, 0, [93, 124], 6, 8⟩] [] by decide +kernel) (by decide) ha hb
  obtain ⟨_, _, M, hM, h⟩ := join_gates L0 (by rw [tokAt_end (Nat.le_refl _)]; exact dull_no) R0 ((tG 0 (by decide)).is rfl) ⟨(tG 1 (by decide)).1.symm, (tG 1 (by decide)).2.2.symm⟩ ((tG 2 (by decide)).is rfl) ⟨(tG 3 (by decide)).1.symm, (tG 3 (by decide)).2.2.symm⟩ ((tG 4 (by decide)).is rfl)
  exact join_end (N := [M]) (N0 := [.mk 8 0 ⟨#[]⟩ [.mk 7 0 ⟨#[103]⟩ [] 0 0, .mk 7 0 ⟨#[104]⟩ [] 0 0] 0 0]) hlx hl hK h hs h1 h2 hap (by decide) (by rw [sames, hM]; rfl) (by simp [Pends, Pend]) (by decide) da db
end
end Go.Proofs.YtjcocblohiglbaaGreatDoor
