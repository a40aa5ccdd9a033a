/- Expressions read: the extents lie within the tokens, the node waits for a slot that there is. Conditions: none. -/
import Derived.Test.YtjcocblohiglbaaGreatDoorC4
import Derived.Test.YtjcocblohiglbaaGreatDoorA4
import Derived.Test.YtjcocblohiglbaaGreatDoorA8
namespace Go.Proofs.YtjcocblohiglbaaGreatDoor
open Go.Dp
set_option linter.unusedVariables false
theorem exprEnd_le {T : List Tk} : ∀ (n deep pos : Nat), pos ≤ T.length → exprEnd T n deep pos ≤ T.length
  | 0, _, pos, h => by rw [exprEnd]; exact h
  | n + 1, deep, pos, h => by
    rw [exprEnd]
    split
    · rename_i d hd
      exact exprEnd_le n _ _ (exprStep_lt T hd)
    · exact h
theorem pExpr_ok {tx : ByteArray} {T : List Tk} {n : Nd} {q : Nat} {ex : List (Nat × Nat)} (h : pExpr tx T 0 [] = .ok n q ex) :
    q = exprEnd T (T.length + 1) 0 0 ∧ ex = [(0, q)] ∧ q ≤ T.length ∧ n = .mk (-1) 0 ⟨#[]⟩ [] (here tx T 0) (max (here tx T 0 : Int) (behind T q)) := by
  unfold pExpr at h
  split at h
  · injection h with h1 h2 h3
    subst h2
    exact ⟨rfl, h3.symm, exprEnd_le _ _ _ (Nat.zero_le _), h1.symm⟩
  · cases h
/-- What is needed of an expression's reading, but for the sizes of what solve gives. -/
theorem good_expr {tx : ByteArray} {T : List Tk} {A F : List (ByteArray × Mx)} (hd : ∀ es z q, q ≤ T.length → solveL T A F [(0, q)] [] = .ok es z → ∀ y, y ∈ es → cnt y ≤ 1000000000) {n : Nd} {q : Nat} {ex : List (Nat × Nat)} (h : pExpr tx T 0 [] = .ok n q ex) : Good T A F n ex := by
  obtain ⟨h1, h2, h3, h4⟩ := pExpr_ok h
  subst h2
  have hc : cnt n = 1 := by rw [h4]; simp [cnt, cnts]
  refine ⟨by simp, ?_, by omega, ?_, ?_⟩
  · intro x hx
    rw [List.mem_singleton] at hx
    subst hx
    exact ⟨Nat.zero_le _, h3⟩
  · rw [h4]; simp [Pend, Pends]
  · intro es z he
    have hall := hd es z q h3 he
    have hl := solveL_len he
    simp at hl
    match es, hl with
    | [y], _ =>
      have hy := hall y (List.mem_singleton.2 rfl)
      refine ⟨fun w hw => by rw [List.mem_singleton] at hw; subst hw; omega, ?_⟩
      rw [h4]
      simp [fill]
      omega
end Go.Proofs.YtjcocblohiglbaaGreatDoor
/- Solving gives at most a node for each token. Conditions: none. -/
namespace Go.Proofs.YtjcocblohiglbaaGreatDoor
open Go.Dp
set_option linter.unusedVariables false
def SRes.all {α : Type} (P : α → Nat → Prop) : SRes α → Prop
  | .ok a q => P a q
  | .bad _ => True
theorem sall_bnd {α β : Type} {P : α → Nat → Prop} {Q : β → Nat → Prop} {r : SRes α} {f : α → Nat → SRes β} (h : r.all P) (hf : ∀ a q, P a q → (f a q).all Q) : (r.bnd f).all Q := by
  cases r with
  | ok a q => exact hf a q h
  | bad q => trivial
theorem sall_mono {α : Type} {P Q : α → Nat → Prop} {r : SRes α} (h : r.all P) (hf : ∀ a q, P a q → Q a q) : r.all Q := by
  cases r with
  | ok a q => exact hf a q h
  | bad q => trivial
theorem cnts_snoc (l : List Nd) (x : Nd) : cnts (l ++ [x]) = cnts l + cnt x := by
  induction l with
  | nil => simp [cnts]
  | cons a l ih => rw [List.cons_append, cnts, cnts, ih]; omega
section
variable (T : List Tk) (last : Nat) (A F : List (ByteArray × Mx))
def Few1 (up : Int → Nat → SRes (Nd × Int)) : Prop := ∀ n pos, (up n pos).all fun x q => cnt x.1 + pos ≤ q
theorem sParts_few {up : Int → Nat → SRes (Nd × Int)} (hu : Few1 up) : ∀ (ps : List ByteArray) (l : List Nd) (e : Int) (pos : Nat), (sParts T last up ps l e pos).all fun r q => cnts r.1 + pos ≤ cnts l + q
  | [], l, e, pos => by rw [sParts]; exact Nat.le_refl _
  | s :: ps, l, e, pos => by
    rw [sParts]
    refine sall_bnd (hu 0 pos) (fun x q h => ?_)
    split
    · refine sall_mono (sParts_few hu ps _ _ (q + 1)) (fun r q' h' => ?_)
      rw [cnts_snoc] at h'
      omega
    · trivial
theorem sRest_few {up : Int → Nat → SRes (Nd × Int)} (hu : Few1 up) (op : Mx) (l : List Nd) (a0 : Int) (pos : Nat) : (sRest T last up op l a0 pos).all fun y q => cnt y + pos ≤ 1 + cnts l + q := by
  rw [sRest]
  refine sall_bnd (sParts_few T last hu _ l _ pos) (fun r q h => ?_)
  split
  · refine sall_bnd (hu _ q) (fun x q' h' => ?_)
    show cnt (.mk _ _ _ _ _ _) + pos ≤ _
    rw [cnt, cnts_snoc]
    omega
  · show cnt (.mk _ _ _ _ _ _) + pos ≤ _
    rw [cnt]
    omega
theorem sArgs_few {up : Int → Nat → SRes (Nd × Int)} (hu : Few1 up) : ∀ (n : Nat) (acc : List Nd) (pos : Nat), (sArgs T last up n acc pos).all fun r q => cnts r + pos ≤ cnts acc + q
  | 0, acc, pos => trivial
  | n + 1, acc, pos => by
    rw [sArgs]
    refine sall_bnd (hu 0 pos) (fun x q h => ?_)
    split
    · refine sall_mono (sArgs_few hu n _ (q + 1)) (fun r q' h' => ?_)
      rw [cnts_snoc] at h'
      omega
    · show cnts (acc ++ [x.1]) + pos ≤ _
      rw [cnts_snoc]
      omega
theorem sFirst_few {up : Int → Nat → SRes (Nd × Int)} (hu : Few1 up) (n : Int) (pos : Nat) : (sFirst T last F up n pos).all fun x q => cnt x.1 + pos ≤ q := by
  rw [sFirst]
  split
  · show cnt (.mk _ _ _ [] _ _) + pos ≤ _
    rw [cnt, cnts]; omega
  · split
    · refine sall_bnd (hu 0 (pos + 1)) (fun x q h => ?_)
      split
      · show cnt (.mk _ _ _ _ _ _) + pos ≤ _
        rw [cnt_eq] at h
        rw [cnt]; omega
      · trivial
    · split
      · split
        · split
          · trivial
          · refine sall_bnd (sRest_few T last hu _ [] _ (pos + 1)) (fun x q h => ?_)
            rw [cnts] at h
            show cnt x + pos ≤ q
            omega
        · split
          · refine sall_bnd (sArgs_few T last hu _ [] (pos + 2)) (fun l q h => ?_)
            rw [cnts] at h
            split
            · show cnt (.mk _ _ _ _ _ _) + pos ≤ _
              rw [cnt]; omega
            · trivial
          · show cnt (.mk _ _ _ [] _ _) + pos ≤ _
            rw [cnt, cnts]; omega
      · trivial
theorem sUpL_few {up : Int → Nat → SRes (Nd × Int)} (hu : Few1 up) (n : Int) : ∀ (k : Nat) (x : Nd) (prio : Int) (pos : Nat), (sUpL T last A up n k x prio pos).all fun y q => cnt y.1 + pos ≤ cnt x + q
  | 0, x, prio, pos => trivial
  | k + 1, x, prio, pos => by
    rw [sUpL]
    split
    · split
      · refine sall_mono (sUpL_few hu n k _ _ (pos + 2)) (fun y q h => ?_)
        rw [cnt, cnts, cnts] at h
        omega
      · trivial
    · split
      · split
        · refine sall_bnd (sRest_few T last hu _ _ _ (pos + 1)) (fun y q h => ?_)
          rw [cnts, cnts] at h
          exact sall_mono (sUpL_few hu n k y _ q) (fun z q' h' => by omega)
        · show cnt x + pos ≤ _
          omega
      · show cnt x + pos ≤ _
        omega
theorem sUp_few : ∀ (f : Nat), Few1 (sUp T last A F f)
  | 0 => fun n pos => trivial
  | f + 1 => fun n pos => by
    rw [sUp, sUpTo]
    exact sall_bnd (sFirst_few T last F (sUp_few f) n pos) (fun x q h => sall_mono (sUpL_few T last A (sUp_few f) n _ _ _ q) (fun y q' h' => by omega))
end
theorem sSolve_few (T : List Tk) (A F : List (ByteArray × Mx)) (x : Nat × Nat) : (sSolve T A F x).all fun y _ => cnt y + x.1 ≤ x.2 := by
  rw [sSolve]
  refine sall_bnd (sUp_few T x.2 A F _ 0 x.1) (fun r q h => ?_)
  split
  · rename_i h'
    show cnt r.1 + x.1 ≤ x.2
    omega
  · trivial
theorem solveL_few (T : List Tk) (A F : List (ByteArray × Mx)) (N : Nat) : ∀ (ex : List (Nat × Nat)) (acc : List Nd), (∀ x, x ∈ ex → x.2 ≤ N) → (∀ y, y ∈ acc → cnt y ≤ N) → (solveL T A F ex acc).all fun es _ => ∀ y, y ∈ es → cnt y ≤ N
  | [], acc, _, h => by rw [solveL]; exact h
  | x :: l, acc, hx, h => by
    rw [solveL]
    refine sall_bnd (sSolve_few T A F x) (fun a q ha => ?_)
    refine solveL_few T A F N l _ (fun y hy => hx y (List.mem_cons_of_mem _ hy)) (fun y hy => ?_)
    rcases List.mem_append.1 hy with hy | hy
    · exact h y hy
    · rw [List.mem_singleton] at hy
      have := hx x (List.mem_cons_self ..)
      subst hy
      omega
/-- An expression's reading has all that is needed. -/
theorem good_expr' {tx : ByteArray} {T : List Tk} {A F : List (ByteArray × Mx)} (hT : T.length ≤ 1000000000) {n : Nd} {q : Nat} {ex : List (Nat × Nat)} (h : pExpr tx T 0 [] = .ok n q ex) : Good T A F n ex :=
  good_expr (fun es z q hq he => by
    have := solveL_few T A F T.length [(0, q)] [] (fun x hx => by rw [List.mem_singleton] at hx; subst hx; exact hq) (fun y hy => by cases hy)
    rw [he] at this
    exact fun y hy => Nat.le_trans (this y hy) hT) h
end Go.Proofs.YtjcocblohiglbaaGreatDoor
/- Filling: how many nodes there are at most. Conditions: none. -/
namespace Go.Proofs.YtjcocblohiglbaaGreatDoor
open Go.Dp
set_option linter.unusedVariables false
theorem getD_cnt {es : List Nd} {N : Nat} (h1 : 1 ≤ N) (hes : ∀ y, y ∈ es → cnt y ≤ N) (k : Nat) (hk : k < es.length) : cnt (es.getD k default) ≤ N := by
  rw [List.getD_eq_getElem?_getD, List.getElem?_eq_getElem hk]
  exact hes _ (List.getElem_mem hk)
mutual
theorem fill_cnt {es : List Nd} {N : Nat} (h1 : 1 ≤ N) (hes : ∀ y, y ∈ es → cnt y ≤ N) : ∀ (x : Nd), Pend es.length x → cnt (fill es x) ≤ cnt x * N
  | .mk k n s l b e, hp => by
    rw [Pend] at hp
    rw [fill, cnt]
    split
    · rename_i hk
      have := hp.1 hk
      refine Nat.le_trans (getD_cnt h1 hes _ (by omega)) ?_
      rw [Nat.add_mul]
      omega
    · have := fills_cnt h1 hes l hp.2
      rw [cnt, Nat.add_mul]
      omega
theorem fills_cnt {es : List Nd} {N : Nat} (h1 : 1 ≤ N) (hes : ∀ y, y ∈ es → cnt y ≤ N) : ∀ (l : List Nd), Pends es.length l → cnts (fills es l) ≤ cnts l * N
  | [], _ => by rw [fills, cnts]; exact Nat.zero_le _
  | x :: l, hp => by
    rw [Pends] at hp
    have a := fill_cnt h1 hes x hp.1
    have b := fills_cnt h1 hes l hp.2
    rw [fills, cnts, cnts, Nat.add_mul]
    omega
end
/-- A reading of at most as many nodes, and extents of tokens, has all that is needed. -/
theorem good_of {T : List Tk} {A F : List (ByteArray × Mx)} {n : Nd} {ex : List (Nat × Nat)} (hT : T.length ≤ 100000) (hl : ex.length ≤ 1000000) (he : ∀ x, x ∈ ex → x.1 ≤ x.2 ∧ x.2 ≤ T.length) (hc : cnt n ≤ 1000000) (hp : Pend ex.length n) : Good T A F n ex := by
  refine ⟨hl, he, by omega, hp, fun es z hs => ?_⟩
  have h1 := solveL_few T A F (T.length + 1) ex [] (fun x hx => Nat.le_succ_of_le (he x hx).2) (fun y hy => by cases hy)
  rw [hs] at h1
  have hlen := solveL_len hs
  simp at hlen
  rw [← hlen] at hp
  have h2 := fill_cnt (N := T.length + 1) (by omega) h1 n hp
  refine ⟨fun y hy => Nat.le_trans (h1 y hy) (by omega), Nat.le_trans h2 ?_⟩
  exact Nat.le_trans (Nat.mul_le_mul hc (Nat.succ_le_succ hT)) (by decide)
end Go.Proofs.YtjcocblohiglbaaGreatDoor
/- What the reader of behaviours reads is in bounds: the leaves. Conditions: none. -/
namespace Go.Proofs.YtjcocblohiglbaaGreatDoor
open Go.Dp
set_option linter.unusedVariables false
/-- Extents within the tokens. -/
def ExOk (T : List Tk) (ex : List (Nat × Nat)) : Prop := ∀ x, x ∈ ex → x.1 ≤ x.2 ∧ x.2 ≤ T.length
/-- A node read from pos on, with ex ahead: in bounds; c: what it may have beyond ten nodes a token. -/
def Inv (T : List Tk) (c pos : Nat) (ex : List (Nat × Nat)) : Res Nd → Prop
  | .ok a q e => ExOk T e ∧ ex.length ≤ e.length ∧ Pend e.length a ∧ cnt a + 10 * pos ≤ 10 * q + c
  | .bad _ => True
theorem inv_bnd {T : List Tk} {c c' pos pos' : Nat} {ex ex' : List (Nat × Nat)} {r : Res Nd} {f : Nd → Nat → List (Nat × Nat) → Res Nd} (h : Inv T c pos ex r)
    (hf : ∀ a q e, ExOk T e → ex.length ≤ e.length → Pend e.length a → cnt a + 10 * pos ≤ 10 * q + c → Inv T c' pos' ex' (f a q e)) : Inv T c' pos' ex' (r.bnd f) := by
  cases r with
  | ok a q e => exact hf a q e h.1 h.2.1 h.2.2.1 h.2.2.2
  | bad q => trivial
mutual
theorem pend_mono {m m' : Nat} (h : m ≤ m') : ∀ (x : Nd), Pend m x → Pend m' x
  | .mk k n s l b e, hp => by
    rw [Pend] at hp ⊢
    exact ⟨fun hk => by have := hp.1 hk; omega, pends_mono h l hp.2⟩
theorem pends_mono {m m' : Nat} (h : m ≤ m') : ∀ (l : List Nd), Pends m l → Pends m' l
  | [], _ => by rw [Pends]; trivial
  | x :: l, hp => by
    rw [Pends] at hp ⊢
    exact ⟨pend_mono h x hp.1, pends_mono h l hp.2⟩
end
theorem pExpr_inv (tx : ByteArray) (T : List Tk) (pos : Nat) (ex : List (Nat × Nat)) (hx : ExOk T ex) : Inv T 0 pos ex (pExpr tx T pos ex) := by
  unfold pExpr
  split
  · rename_i h
    obtain ⟨d, hd⟩ := opens_step h 0
    have h1 := exprStep_lt T hd
    have h2 : pos + 1 ≤ exprEnd T (T.length + 1) 0 pos := by
      rw [exprEnd, hd]
      exact exprEnd_ge T _ _ _
    have h3 := exprEnd_le (T := T) (T.length + 1) 0 pos (Nat.le_of_lt h1)
    refine ⟨fun x hm => ?_, by simp, ?_, ?_⟩
    · rcases List.mem_append.1 hm with hm | hm
      · exact hx x hm
      · rw [List.mem_singleton] at hm
        subst hm
        exact ⟨by omega, h3⟩
    · rw [Pend]
      refine ⟨fun _ => ⟨by omega, ?_⟩, by rw [Pends]; trivial⟩
      rw [List.length_append, List.length_singleton]
      omega
    · rw [cnt, cnts]; omega
  · trivial
theorem pEq_inv (tx : ByteArray) (T : List Tk) (pos : Nat) (ex : List (Nat × Nat)) (hx : ExOk T ex) : Inv T 0 pos ex (pEq tx T pos ex) := by
  unfold pEq
  refine inv_bnd (pExpr_inv tx T pos ex hx) (fun a q e h1 h2 h3 h4 => ?_)
  split
  · refine inv_bnd (pExpr_inv tx T (q + 1) e h1) (fun b q' e' g1 g2 g3 g4 => ?_)
    refine ⟨g1, by omega, ?_, ?_⟩
    · rw [Pend, Pends, Pends, Pends]
      exact ⟨fun h => absurd h (by decide), pend_mono g2 a h3, g3, trivial⟩
    · rw [cnt, cnts, cnts, cnts]; omega
  · trivial
end Go.Proofs.YtjcocblohiglbaaGreatDoor
/- What the reader of behaviours reads is in bounds: rows. Conditions: none. -/
namespace Go.Proofs.YtjcocblohiglbaaGreatDoor
open Go.Dp
set_option linter.unusedVariables false
/-- The same of a row of nodes, each of weight w. -/
def InvL (T : List Tk) (w c pos : Nat) (ex : List (Nat × Nat)) : Res (List Nd) → Prop
  | .ok l q e => ExOk T e ∧ ex.length ≤ e.length ∧ Pends e.length l ∧ w * cnts l + 10 * pos ≤ 10 * q + c
  | .bad _ => True
theorem invL_bnd {T : List Tk} {w c c' pos pos' : Nat} {ex ex' : List (Nat × Nat)} {r : Res (List Nd)} {f : List Nd → Nat → List (Nat × Nat) → Res Nd} (h : InvL T w c pos ex r)
    (hf : ∀ a q e, ExOk T e → ex.length ≤ e.length → Pends e.length a → w * cnts a + 10 * pos ≤ 10 * q + c → Inv T c' pos' ex' (f a q e)) : Inv T c' pos' ex' (r.bnd f) := by
  cases r with
  | ok a q e => exact hf a q e h.1 h.2.1 h.2.2.1 h.2.2.2
  | bad q => trivial
theorem pends_append {m : Nat} : ∀ (l r : List Nd), Pends m l → Pends m r → Pends m (l ++ r)
  | [], r, _, h => h
  | x :: l, r, h, h' => by
    rw [Pends] at h
    rw [List.cons_append, Pends]
    exact ⟨h.1, pends_append l r h.2 h'⟩
/-- One that costs w times its nodes. -/
def One (T : List Tk) (w : Nat) (one : Nat → List (Nat × Nat) → Res Nd) : Prop := ∀ pos ex, ExOk T ex → match one pos ex with
  | .ok a q e => ExOk T e ∧ ex.length ≤ e.length ∧ Pend e.length a ∧ w * cnt a + 10 * pos ≤ 10 * q
  | .bad _ => True
theorem pRowsL_inv {T : List Tk} {w : Nat} {one : Nat → List (Nat × Nat) → Res Nd} (ho : One T w one) : ∀ (n : Nat) (acc : List Nd) (pos : Nat) (ex : List (Nat × Nat)) (p0 : Nat) (e0 : List (Nat × Nat)), ExOk T ex → e0.length ≤ ex.length → Pends ex.length acc → w * cnts acc + 10 * p0 ≤ 10 * pos →
    InvL T w 0 p0 e0 (pRowsL T one n acc pos ex)
  | 0, acc, pos, ex, p0, e0, h1, h2, h3, h4 => trivial
  | n + 1, acc, pos, ex, p0, e0, h1, h2, h3, h4 => by
    rw [pRowsL]
    split
    · have := ho (pos + 1) ex h1
      cases hr : one (pos + 1) ex with
      | ok a q e =>
        rw [hr] at this
        obtain ⟨g1, g2, g3, g4⟩ := this
        refine pRowsL_inv ho n _ q e p0 e0 g1 (by omega) (pends_append _ _ (pends_mono g2 _ h3) ?_) ?_
        · rw [Pends, Pends]; exact ⟨g3, trivial⟩
        · rw [cnts_snoc, Nat.mul_add]; omega
      | bad q => trivial
    · exact ⟨h1, h2, h3, by omega⟩
theorem pRows_inv {T : List Tk} {w : Nat} {one : Nat → List (Nat × Nat) → Res Nd} (ho : One T w one) (pos : Nat) (ex : List (Nat × Nat)) (hx : ExOk T ex) : InvL T w 0 pos ex (pRows T one pos ex) := by
  rw [pRows]
  have := ho pos ex hx
  cases hr : one pos ex with
  | ok a q e =>
    rw [hr] at this
    obtain ⟨g1, g2, g3, g4⟩ := this
    refine pRowsL_inv ho _ [a] q e pos ex g1 g2 (by rw [Pends, Pends]; exact ⟨g3, trivial⟩) ?_
    rw [cnts, cnts]
    exact g4
  | bad q => trivial
theorem one_of {T : List Tk} {one : Nat → List (Nat × Nat) → Res Nd} (h : ∀ pos ex, ExOk T ex → Inv T 0 pos ex (one pos ex)) : One T 1 one := fun pos ex hx => by
  have := h pos ex hx
  cases hr : one pos ex with
  | ok a q e => rw [hr] at this; exact ⟨this.1, this.2.1, this.2.2.1, by have := this.2.2.2; omega⟩
  | bad q => trivial
theorem pName_one (tx : ByteArray) (T : List Tk) : One T 10 (pName tx T) := fun pos ex hx => by
  rw [pName]
  by_cases h : (tokAt T pos).kind = 1
  · rw [if_pos h]
    refine ⟨hx, Nat.le_refl _, ?_, ?_⟩
    · rw [Pend, Pends]; exact ⟨fun h => absurd h (by decide), trivial⟩
    · rw [cnt, cnts]; omega
  · rw [if_neg h]; trivial
theorem pName_inv (tx : ByteArray) (T : List Tk) (pos : Nat) (ex : List (Nat × Nat)) (hx : ExOk T ex) : Inv T 0 pos ex (pName tx T pos ex) := by
  have := pName_one tx T pos ex hx
  cases hr : pName tx T pos ex with
  | ok a q e => rw [hr] at this; exact ⟨this.1, this.2.1, this.2.2.1, by have := this.2.2.2; omega⟩
  | bad q => trivial
theorem pend_list {m : Nat} {b : Int} {l : List Nd} (h : Pends m l) : Pend m (pList (emptyAt b) l) := by
  cases l with
  | nil => unfold pList emptyAt; rw [Pend, Pends]; exact ⟨fun h => absurd h (by decide), trivial⟩
  | cons a r => unfold pList; rw [Pend]; exact ⟨fun h => absurd h (by decide), h⟩
theorem cnt_list {b : Int} {l : List Nd} : cnt (pList (emptyAt b) l) = 1 + cnts l := by
  cases l with
  | nil => unfold pList emptyAt; rw [cnt]
  | cons a r => unfold pList; rw [cnt]
theorem pend_empty {m : Nat} (b : Int) : Pend m (emptyAt b) := by unfold emptyAt; rw [Pend, Pends]; exact ⟨fun h => absurd h (by decide), trivial⟩
theorem cnt_empty (b : Int) : cnt (emptyAt b) = 1 := by unfold emptyAt; rw [cnt, cnts]
theorem pNames_inv (tx : ByteArray) (T : List Tk) (pos : Nat) (ex : List (Nat × Nat)) (hx : ExOk T ex) : Inv T 1 pos ex (pNames tx T pos ex) := by
  unfold pNames
  refine invL_bnd (pRows_inv (pName_one tx T) pos ex hx) (fun l q e h1 h2 h3 h4 => ⟨h1, h2, pend_list h3, ?_⟩)
  rw [cnt_list]; omega
end Go.Proofs.YtjcocblohiglbaaGreatDoor
/- What the reader of behaviours reads is in bounds: small nodes. Conditions: none. -/
namespace Go.Proofs.YtjcocblohiglbaaGreatDoor
open Go.Dp
set_option linter.unusedVariables false
set_option linter.unusedSimpArgs false
theorem pBind_inv (tx : ByteArray) (T : List Tk) (pos : Nat) (ex : List (Nat × Nat)) (hx : ExOk T ex) : Inv T 0 pos ex (pBind tx T pos ex) := by
  unfold pBind
  refine inv_bnd (pName_inv tx T pos ex hx) (fun a q e h1 h2 h3 h4 => ?_)
  split
  · refine inv_bnd (pName_inv tx T (q + 1) e h1) (fun so q' e' g1 g2 g3 g4 => ?_)
    split
    · refine inv_bnd (pExpr_inv tx T (q' + 1) e' g1) (fun x q2 e2 k1 k2 k3 k4 => ?_)
      refine ⟨k1, by omega, ?_, ?_⟩
      · simp only [Pend, Pends]
        exact ⟨fun h => absurd h (by decide), pend_mono k2 _ g3, k3, trivial⟩
      · simp only [cnt, cnts]
        omega
    · trivial
  · trivial
theorem pGate_inv (tx : ByteArray) (T : List Tk) (pos : Nat) (ex : List (Nat × Nat)) (hx : ExOk T ex) : Inv T 0 pos ex (pGate tx T pos ex) := by
  unfold pGate
  refine inv_bnd (pName_inv tx T pos ex hx) (fun a q e h1 h2 h3 h4 => ?_)
  split
  · split
    · refine inv_bnd (pNames_inv tx T (q + 1 + 1) e h1) (fun so q' e' g1 g2 g3 g4 => ?_)
      split
      · refine ⟨g1, by omega, ?_, ?_⟩
        · simp only [Pend, Pends]
          exact ⟨fun h => absurd h (by decide), g3, trivial⟩
        · simp only [cnt, cnts]
          omega
      · trivial
    · trivial
  · trivial
theorem pNumber_inv (tx : ByteArray) (T : List Tk) (pos : Nat) (ex : List (Nat × Nat)) (hx : ExOk T ex) : Inv T 0 pos ex (pNumber tx T pos ex) := by
  unfold pNumber
  split
  · refine ⟨hx, Nat.le_refl _, ?_, ?_⟩
    · simp only [Pend, Pends]
      exact ⟨fun h => absurd h (by decide), trivial⟩
    · simp only [cnt, cnts]; omega
  · trivial
theorem pExpr_one (tx : ByteArray) (T : List Tk) (pos : Nat) (ex : List (Nat × Nat)) (hx : ExOk T ex) : match pExpr tx T pos ex with
    | .ok a q e => ExOk T e ∧ ex.length ≤ e.length ∧ Pend e.length a ∧ cnt a = 1 ∧ pos + 1 ≤ q
    | .bad _ => True := by
  have h := pExpr_inv tx T pos ex hx
  cases hr : pExpr tx T pos ex with
  | ok a q e =>
    rw [hr] at h
    obtain ⟨h1, h2, h3, h4⟩ := h
    have hc : cnt a = 1 := by
      unfold pExpr at hr
      split at hr
      · injection hr with e1 e2 e3
        rw [← e1, cnt, cnts]
      · cases hr
    exact ⟨h1, h2, h3, hc, by omega⟩
  | bad q => trivial
theorem pGive_inv (tx : ByteArray) (T : List Tk) (pos : Nat) (ex : List (Nat × Nat)) (hx : ExOk T ex) : Inv T 0 pos ex (pGive tx T pos ex) := by
  unfold pGive
  split
  · refine inv_bnd (pName_inv tx T (pos + 1) ex hx) (fun a q e h1 h2 h3 h4 => ⟨h1, h2, ?_, ?_⟩)
    · simp only [Pend, Pends]
      exact ⟨fun h => absurd h (by decide), h3, trivial⟩
    · simp only [cnt, cnts]; omega
  · have h := pExpr_one tx T pos ex hx
    cases hr : pExpr tx T pos ex with
    | ok a q e =>
      rw [hr] at h
      obtain ⟨h1, h2, h3, h4, h5⟩ := h
      refine ⟨h1, h2, ?_, ?_⟩
      · simp only [Pend, Pends]
        exact ⟨fun h => absurd h (by decide), h3, trivial⟩
      · simp only [cnt, cnts]; omega
    | bad q => trivial
theorem pExit_inv (tx : ByteArray) (T : List Tk) (b : Int) (pos : Nat) (ex : List (Nat × Nat)) (hx : ExOk T ex) : Inv T 1 pos ex (pExit tx T b pos ex) := by
  unfold pExit
  split
  · refine invL_bnd (pRows_inv (one_of (pGive_inv tx T)) (pos + 1) ex hx) (fun l q e h1 h2 h3 h4 => ?_)
    split
    · refine ⟨h1, h2, ?_, ?_⟩
      · simp only [Pend]
        exact ⟨fun h => absurd h (by decide), h3⟩
      · simp only [cnt]; omega
    · trivial
  · refine ⟨hx, Nat.le_refl _, ?_, ?_⟩
    · simp only [Pend, Pends]
      exact ⟨fun h => absurd h (by decide), trivial⟩
    · simp only [cnt, cnts]; omega
end Go.Proofs.YtjcocblohiglbaaGreatDoor
/- What the reader of behaviours reads is in bounds: gates, declarations, windows, calls. Conditions: none. -/
namespace Go.Proofs.YtjcocblohiglbaaGreatDoor
open Go.Dp
set_option linter.unusedVariables false
set_option linter.unusedSimpArgs false
theorem pGates_inv (tx : ByteArray) (T : List Tk) (pos : Nat) (ex : List (Nat × Nat)) (hx : ExOk T ex) : Inv T 1 pos ex (pGates tx T pos ex) := by
  unfold pGates
  split
  · refine invL_bnd (pRows_inv (pName_one tx T) (pos + 1) ex hx) (fun l q e h1 h2 h3 h4 => ?_)
    split
    · refine ⟨h1, h2, ?_, ?_⟩
      · simp only [Pend]
        exact ⟨fun h => absurd h (by decide), h3⟩
      · simp only [cnt]; omega
    · trivial
  · exact ⟨hx, Nat.le_refl _, pend_empty _, by rw [cnt_empty]; omega⟩
theorem invLL_bnd {T : List Tk} {w w' c c' pos pos' : Nat} {ex ex' : List (Nat × Nat)} {r : Res (List Nd)} {f : List Nd → Nat → List (Nat × Nat) → Res (List Nd)} (h : InvL T w c pos ex r)
    (hf : ∀ a q e, ExOk T e → ex.length ≤ e.length → Pends e.length a → w * cnts a + 10 * pos ≤ 10 * q + c → InvL T w' c' pos' ex' (f a q e)) : InvL T w' c' pos' ex' (r.bnd f) := by
  cases r with
  | ok a q e => exact hf a q e h.1 h.2.1 h.2.2.1 h.2.2.2
  | bad q => trivial
theorem shares_cnt (kind : Int) (so : Nd) : ∀ (l : List Nd), cnts (l.map (share kind so)) ≤ (1 + cnt so) * cnts l
  | [] => by rw [List.map_nil, cnts]; exact Nat.zero_le _
  | x :: l => by
    have := shares_cnt kind so l
    rw [List.map_cons, cnts, cnts, Nat.mul_add]
    have h1 : cnt (share kind so x) = 1 + cnt so := by unfold share; rw [cnt, cnts, cnts]; omega
    have h2 : 1 ≤ cnt x := by rw [cnt_eq]; omega
    have h3 := Nat.mul_le_mul_left (1 + cnt so) h2
    omega
theorem shares_pend {m : Nat} (kind : Int) (hk : kind ≠ -1) (so : Nd) (hs : Pend m so) : ∀ (l : List Nd), Pends m (l.map (share kind so))
  | [] => by rw [List.map_nil, Pends]; trivial
  | x :: l => by
    rw [List.map_cons, Pends]
    refine ⟨?_, shares_pend kind hk so hs l⟩
    unfold share
    rw [Pend, Pends, Pends]
    exact ⟨fun h => absurd h hk, hs, trivial⟩
theorem pShared_inv (tx : ByteArray) (T : List Tk) (kind : Int) (hk : kind ≠ -1) (pos : Nat) (ex : List (Nat × Nat)) (hx : ExOk T ex) : InvL T 5 0 pos ex (pShared tx T kind pos ex) := by
  unfold pShared
  refine invLL_bnd (pRows_inv (pName_one tx T) pos ex hx) (fun l q e h1 h2 h3 h4 => ?_)
  split
  · rw [pName]
    by_cases hn : (tokAt T (q + 1)).kind = 1
    · rw [if_pos hn]
      refine ⟨h1, h2, shares_pend kind hk _ (by rw [Pend, Pends]; exact ⟨fun h => absurd h (by decide), trivial⟩) l, ?_⟩
      have := shares_cnt kind (.mk 7 0 (tokAt T (q + 1)).s [] (here tx T (q + 1)) (max (here tx T (q + 1) : Int) (behind T (q + 1 + 1)))) l
      rw [cnt, cnts] at this
      omega
    · rw [if_neg hn]; trivial
  · trivial
theorem pDeclsL_inv (tx : ByteArray) (T : List Tk) : ∀ (n : Nat) (acc : List Nd) (pos : Nat) (ex : List (Nat × Nat)) (p0 : Nat) (e0 : List (Nat × Nat)), ExOk T ex → e0.length ≤ ex.length → Pends ex.length acc → 5 * cnts acc + 10 * p0 ≤ 10 * pos →
    InvL T 5 0 p0 e0 (pDeclsL tx T n acc pos ex)
  | 0, acc, pos, ex, p0, e0, h1, h2, h3, h4 => trivial
  | n + 1, acc, pos, ex, p0, e0, h1, h2, h3, h4 => by
    rw [pDeclsL]
    split
    · refine invLL_bnd (pShared_inv tx T 9 (by decide) (pos + 1) ex h1) (fun l q e g1 g2 g3 g4 => ?_)
      refine pDeclsL_inv tx T n _ q e p0 e0 g1 (by omega) (pends_append _ _ (pends_mono g2 _ h3) g3) ?_
      rw [cnts_append, Nat.mul_add]; omega
    · exact ⟨h1, h2, h3, by omega⟩
theorem pDecls_inv (tx : ByteArray) (T : List Tk) (pos : Nat) (ex : List (Nat × Nat)) (hx : ExOk T ex) : Inv T 1 pos ex (pDecls tx T pos ex) := by
  unfold pDecls
  refine invL_bnd (pShared_inv tx T 9 (by decide) pos ex hx) (fun l q e h1 h2 h3 h4 => ?_)
  refine invL_bnd (pDeclsL_inv tx T _ l q e pos ex h1 h2 h3 (by omega)) (fun l' q' e' g1 g2 g3 g4 => ⟨g1, g2, ?_, ?_⟩)
  · simp only [Pend]
    exact ⟨fun h => absurd h (by decide), g3⟩
  · simp only [cnt]; omega
theorem pCall_inv (tx : ByteArray) (T : List Tk) (b : Int) (pos : Nat) (ex : List (Nat × Nat)) (hx : ExOk T ex) : Inv T 0 pos ex (pCall tx T b pos ex) := by
  unfold pCall
  have hn := pName_one tx T pos ex hx
  cases hr : pName tx T pos ex with
  | bad q => trivial
  | ok a q e =>
    rw [hr] at hn
    obtain ⟨h1, h2, h3, h4⟩ := hn
    have ha : 1 ≤ cnt a := by rw [cnt_eq]; omega
    show Inv T 0 pos ex ((pGates tx T q e).bnd _)
    refine inv_bnd (pGates_inv tx T q e h1) (fun g q1 e1 g1 g2 g3 g4 => ?_)
    split
    · refine invL_bnd (pRows_inv (one_of (pExpr_inv tx T)) (q1 + 1) e1 g1) (fun l q2 e2 k1 k2 k3 k4 => ?_)
      split
      · refine ⟨k1, by omega, ?_, ?_⟩
        · simp only [Pend, Pends]
          exact ⟨fun h => absurd h (by decide), pend_mono k2 _ g3, pend_list k3, trivial⟩
        · simp only [cnt, cnts, cnt_list]; omega
      · trivial
    · refine ⟨g1, by omega, ?_, ?_⟩
      · simp only [Pend, Pends]
        exact ⟨fun h => absurd h (by decide), g3, pend_empty _, trivial⟩
      · simp only [cnt, cnts, cnt_empty]; omega
end Go.Proofs.YtjcocblohiglbaaGreatDoor
/- What the reader of behaviours reads is in bounds: behaviours of two parts. Conditions: none. -/
namespace Go.Proofs.YtjcocblohiglbaaGreatDoor
open Go.Dp
set_option linter.unusedVariables false
set_option linter.unusedSimpArgs false
abbrev InvF (T : List Tk) (f : Nat → List (Nat × Nat) → Res Nd) : Prop := ∀ pos ex, ExOk T ex → Inv T 0 pos ex (f pos ex)
theorem pSum_inv (tx : ByteArray) (T : List Tk) {sub rec : Nat → List (Nat × Nat) → Res Nd} (hs : InvF T sub) (hr : InvF T rec) : InvF T (pSum tx T sub rec) := by
  intro pos ex hx
  unfold pSum
  refine inv_bnd (hs pos ex hx) (fun a q e h1 h2 h3 h4 => ?_)
  split
  · refine inv_bnd (hr (q + 1) e h1) (fun x q1 e1 g1 g2 g3 g4 => ⟨g1, by omega, ?_, ?_⟩)
    · simp only [Pend, Pends]
      exact ⟨fun h => absurd h (by decide), pend_mono g2 _ h3, g3, trivial⟩
    · simp only [cnt, cnts]; omega
  · exact ⟨h1, h2, h3, h4⟩
theorem pDis_inv (tx : ByteArray) (T : List Tk) {sub rec : Nat → List (Nat × Nat) → Res Nd} (hs : InvF T sub) (hr : InvF T rec) : InvF T (pDis tx T sub rec) := by
  intro pos ex hx
  unfold pDis
  refine inv_bnd (hs pos ex hx) (fun a q e h1 h2 h3 h4 => ?_)
  split
  · refine inv_bnd (hr (q + 1) e h1) (fun x q1 e1 g1 g2 g3 g4 => ⟨g1, by omega, ?_, ?_⟩)
    · simp only [Pend, Pends]
      exact ⟨fun h => absurd h (by decide), pend_mono g2 _ h3, g3, trivial⟩
    · simp only [cnt, cnts]; omega
  · exact ⟨h1, h2, h3, h4⟩
theorem pParts_inv (tx : ByteArray) (T : List Tk) {sub rec : Nat → List (Nat × Nat) → Res Nd} (hs : InvF T sub) (hr : InvF T rec) : InvF T (pParts tx T sub rec) := by
  intro pos ex hx
  unfold pParts
  refine inv_bnd (hs pos ex hx) (fun a q e h1 h2 h3 h4 => ?_)
  split
  · refine inv_bnd (hr (q + 1) e h1) (fun x q1 e1 g1 g2 g3 g4 => ⟨g1, by omega, ?_, ?_⟩)
    · simp only [Pend, Pends]
      exact ⟨fun h => absurd h (by decide), pend_empty _, pend_mono g2 _ h3, g3, trivial⟩
    · simp only [cnt, cnts, cnt_empty]; omega
  · split
    · refine inv_bnd (hr (q + 1) e h1) (fun x q1 e1 g1 g2 g3 g4 => ⟨g1, by omega, ?_, ?_⟩)
      · simp only [Pend, Pends]
        exact ⟨fun h => absurd h (by decide), pend_empty _, pend_mono g2 _ h3, g3, trivial⟩
      · simp only [cnt, cnts, cnt_empty]; omega
    · split
      · refine inv_bnd (pNames_inv tx T (q + 1) e h1) (fun l q1 e1 g1 g2 g3 g4 => ?_)
        split
        · refine inv_bnd (hr (q1 + 1) e1 g1) (fun x q2 e2 k1 k2 k3 k4 => ⟨k1, by omega, ?_, ?_⟩)
          · simp only [Pend, Pends]
            exact ⟨fun h => absurd h (by decide), pend_mono k2 _ g3, pend_mono (Nat.le_trans g2 k2) _ h3, k3, trivial⟩
          · simp only [cnt, cnts]; omega
        · trivial
      · exact ⟨h1, h2, h3, h4⟩
theorem pBeh_inv (tx : ByteArray) (T : List Tk) {sub rec : Nat → List (Nat × Nat) → Res Nd} (hs : InvF T sub) (hr : InvF T rec) : InvF T (pBeh tx T sub rec) := by
  intro pos ex hx
  unfold pBeh
  refine inv_bnd (hs pos ex hx) (fun a q e h1 h2 h3 h4 => ?_)
  split
  · split
    · refine inv_bnd (pDecls_inv tx T (q + 1 + 1) e h1) (fun l q1 e1 g1 g2 g3 g4 => ?_)
      split
      · refine inv_bnd (hr (q1 + 1) e1 g1) (fun x q2 e2 k1 k2 k3 k4 => ⟨k1, by omega, ?_, ?_⟩)
        · simp only [Pend, Pends]
          exact ⟨fun h => absurd h (by decide), pend_mono k2 _ g3, pend_mono (Nat.le_trans g2 k2) _ h3, k3, trivial⟩
        · simp only [cnt, cnts]; omega
      · trivial
    · refine inv_bnd (hr (q + 1) e h1) (fun x q1 e1 g1 g2 g3 g4 => ⟨g1, by omega, ?_, ?_⟩)
      · simp only [Pend, Pends]
        exact ⟨fun h => absurd h (by decide), pend_empty _, pend_mono g2 _ h3, g3, trivial⟩
      · simp only [cnt, cnts, cnt_empty]; omega
  · exact ⟨h1, h2, h3, h4⟩
theorem pSome_inv (tx : ByteArray) (T : List Tk) {beh : Nat → List (Nat × Nat) → Res Nd} (hb : InvF T beh) (b : Int) : InvF T (pSome tx T beh b) := by
  intro pos ex hx
  unfold pSome
  refine inv_bnd (pDecls_inv tx T pos ex hx) (fun a q e h1 h2 h3 h4 => ?_)
  split
  · refine inv_bnd (hb (q + 1) e h1) (fun x q1 e1 g1 g2 g3 g4 => ⟨g1, by omega, ?_, ?_⟩)
    · simp only [Pend, Pends]
      exact ⟨fun h => absurd h (by decide), pend_mono g2 _ h3, g3, trivial⟩
    · simp only [cnt, cnts]; omega
  · trivial
theorem pPick_inv (tx : ByteArray) (T : List Tk) {beh : Nat → List (Nat × Nat) → Res Nd} (hb : InvF T beh) (b : Int) : InvF T (pPick tx T beh b) := by
  intro pos ex hx
  unfold pPick
  refine invL_bnd (pRows_inv (one_of (pGate_inv tx T)) pos ex hx) (fun a q e h1 h2 h3 h4 => ?_)
  split
  · refine inv_bnd (hb (q + 1) e h1) (fun x q1 e1 g1 g2 g3 g4 => ⟨g1, by omega, ?_, ?_⟩)
    · simp only [Pend, Pends]
      exact ⟨fun h => absurd h (by decide), pend_list (pends_mono g2 _ h3), g3, trivial⟩
    · simp only [cnt, cnts, cnt_list]; omega
  · trivial
theorem pChoice_inv (tx : ByteArray) (T : List Tk) {beh : Nat → List (Nat × Nat) → Res Nd} (hb : InvF T beh) (b : Int) : InvF T (pChoice tx T beh b) := by
  intro pos ex hx
  unfold pChoice
  split
  · split
    · exact pPick_inv tx T hb b pos ex hx
    · exact pSome_inv tx T hb b pos ex hx
  · exact pSome_inv tx T hb b pos ex hx
end Go.Proofs.YtjcocblohiglbaaGreatDoor
/- What the reader of behaviours reads is in bounds: behaviours that begin with a word. Conditions: none. -/
namespace Go.Proofs.YtjcocblohiglbaaGreatDoor
open Go.Dp
set_option linter.unusedVariables false
set_option linter.unusedSimpArgs false
theorem pGuard_inv (tx : ByteArray) (T : List Tk) {pre : Nat → List (Nat × Nat) → Res Nd} (hb : InvF T pre) : InvF T (pGuard tx T pre) := by
  intro pos ex hx
  unfold pGuard
  refine invL_bnd (pRows_inv (one_of (pEq_inv tx T)) (pos + 1) ex hx) (fun a q e h1 h2 h3 h4 => ?_)
  split
  · split
    · refine inv_bnd (hb (q + 1 + 1) e h1) (fun x q1 e1 g1 g2 g3 g4 => ⟨g1, by omega, ?_, ?_⟩)
      · simp only [Pend, Pends]
        exact ⟨fun h => absurd h (by decide), pend_list (pends_mono g2 _ h3), g3, trivial⟩
      · simp only [cnt, cnts, cnt_list]; omega
    · trivial
  · trivial
theorem pParen_inv (tx : ByteArray) (T : List Tk) {beh : Nat → List (Nat × Nat) → Res Nd} (hb : InvF T beh) : InvF T (pParen tx T beh) := by
  intro pos ex hx
  unfold pParen
  refine inv_bnd (hb (pos + 1) ex hx) (fun x q e h1 h2 h3 h4 => ?_)
  split
  · refine ⟨h1, h2, ?_, ?_⟩
    · rw [pend_eq] at h3
      rw [Pend]
      exact h3
    · rw [cnt_eq] at h4
      rw [cnt]; omega
  · trivial
theorem pWait_inv (tx : ByteArray) (T : List Tk) {pre : Nat → List (Nat × Nat) → Res Nd} (hb : InvF T pre) : InvF T (pWait tx T pre) := by
  intro pos ex hx
  unfold pWait
  split
  · split
    · refine inv_bnd (hb (pos + 1 + 1 + 1) ex hx) (fun x q1 e1 g1 g2 g3 g4 => ⟨g1, by omega, ?_, ?_⟩)
      · simp only [Pend, Pends]
        exact ⟨fun h => absurd h (by decide), g3, trivial⟩
      · simp only [cnt, cnts]; omega
    · trivial
  · trivial
theorem pHide_inv (tx : ByteArray) (T : List Tk) {beh : Nat → List (Nat × Nat) → Res Nd} (hb : InvF T beh) : InvF T (pHide tx T beh) := by
  intro pos ex hx
  unfold pHide
  refine inv_bnd (pNames_inv tx T (pos + 1) ex hx) (fun a q e h1 h2 h3 h4 => ?_)
  split
  · refine inv_bnd (hb (q + 1) e h1) (fun x q1 e1 g1 g2 g3 g4 => ⟨g1, by omega, ?_, ?_⟩)
    · simp only [Pend, Pends]
      exact ⟨fun h => absurd h (by decide), pend_mono g2 _ h3, g3, trivial⟩
    · simp only [cnt, cnts]; omega
  · trivial
theorem pLet_inv (tx : ByteArray) (T : List Tk) {beh : Nat → List (Nat × Nat) → Res Nd} (hb : InvF T beh) : InvF T (pLet tx T beh) := by
  intro pos ex hx
  unfold pLet
  refine invL_bnd (pRows_inv (one_of (pBind_inv tx T)) (pos + 1) ex hx) (fun a q e h1 h2 h3 h4 => ?_)
  split
  · refine inv_bnd (hb (q + 1) e h1) (fun x q1 e1 g1 g2 g3 g4 => ⟨g1, by omega, ?_, ?_⟩)
    · simp only [Pend, Pends]
      exact ⟨fun h => absurd h (by decide), pend_list (pends_mono g2 _ h3), g3, trivial⟩
    · simp only [cnt, cnts, cnt_list]; omega
  · trivial
theorem pChoose_inv (tx : ByteArray) (T : List Tk) {beh : Nat → List (Nat × Nat) → Res Nd} (hb : InvF T beh) : InvF T (pChoose tx T beh) := by
  intro pos ex hx
  unfold pChoose
  exact inv_bnd (pChoice_inv tx T hb _ (pos + 1) ex hx) (fun x q e h1 h2 h3 h4 => ⟨h1, h2, h3, by omega⟩)
theorem pStop_inv (tx : ByteArray) (T : List Tk) : InvF T (pStop tx T) := by
  intro pos ex hx
  unfold pStop
  refine ⟨hx, Nat.le_refl _, ?_, ?_⟩
  · simp only [Pend, Pends]
    exact ⟨fun h => absurd h (by decide), trivial⟩
  · simp only [cnt, cnts]; omega
theorem pExits_inv (tx : ByteArray) (T : List Tk) : InvF T (pExits tx T) := by
  intro pos ex hx
  unfold pExits
  exact inv_bnd (pExit_inv tx T _ (pos + 1) ex hx) (fun x q e h1 h2 h3 h4 => ⟨h1, h2, h3, by omega⟩)
theorem pCalls_inv (tx : ByteArray) (T : List Tk) : InvF T (pCalls tx T) := by
  intro pos ex hx
  unfold pCalls
  exact inv_bnd (pCall_inv tx T _ pos ex hx) (fun x q e h1 h2 h3 h4 => ⟨h1, h2, h3, by omega⟩)
end Go.Proofs.YtjcocblohiglbaaGreatDoor
/- What the reader of behaviours reads is in bounds. Conditions: none. -/
namespace Go.Proofs.YtjcocblohiglbaaGreatDoor
open Go.Dp
set_option linter.unusedVariables false
set_option linter.unusedSimpArgs false
theorem pWindow_inv (tx : ByteArray) (T : List Tk) (pos : Nat) (ex : List (Nat × Nat)) (hx : ExOk T ex) : Inv T 0 pos ex (pWindow tx T pos ex) := by
  unfold pWindow
  split
  · refine inv_bnd (pNumber_inv tx T (pos + 1) ex hx) (fun a q e h1 h2 h3 h4 => ?_)
    split
    · split
      · refine inv_bnd (pNumber_inv tx T (q + 1) e h1) (fun c q1 e1 g1 g2 g3 g4 => ?_)
        split
        · refine ⟨g1, by omega, ?_, ?_⟩
          · simp only [Pend, Pends]
            exact ⟨fun h => absurd h (by decide), pend_mono g2 _ h3, g3, trivial⟩
          · simp only [cnt, cnts]; omega
        · trivial
      · split
        · refine ⟨h1, h2, ?_, ?_⟩
          · simp only [Pend, Pends]
            exact ⟨fun h => absurd h (by decide), h3, trivial⟩
          · simp only [cnt, cnts]; omega
        · trivial
    · split
      · refine ⟨h1, h2, ?_, ?_⟩
        · simp only [Pend, Pends]
          exact ⟨fun h => absurd h (by decide), h3, trivial⟩
        · simp only [cnt, cnts]; omega
      · trivial
  · trivial
theorem pOffers_inv (tx : ByteArray) (T : List Tk) : ∀ (n : Nat) (acc : List Nd) (pos : Nat) (ex : List (Nat × Nat)) (p0 : Nat) (e0 : List (Nat × Nat)), ExOk T ex → e0.length ≤ ex.length → Pends ex.length acc → 5 * cnts acc + 10 * p0 ≤ 10 * pos →
    InvL T 5 0 p0 e0 (pOffers tx T n acc pos ex)
  | 0, acc, pos, ex, p0, e0, h1, h2, h3, h4 => trivial
  | n + 1, acc, pos, ex, p0, e0, h1, h2, h3, h4 => by
    rw [pOffers]
    split
    · have h := pExpr_one tx T (pos + 1) ex h1
      cases hr : pExpr tx T (pos + 1) ex with
      | ok a q e =>
        rw [hr] at h
        obtain ⟨g1, g2, g3, g4, g5⟩ := h
        refine pOffers_inv tx T n _ q e p0 e0 g1 (by omega) (pends_append _ _ (pends_mono g2 _ h3) ?_) ?_
        · simp only [Pend, Pends]
          exact ⟨⟨fun h => absurd h (by decide), g3, trivial⟩, trivial⟩
        · rw [cnts_snoc, cnt, cnts, cnts]; omega
      | bad q => trivial
    · split
      · refine invLL_bnd (pShared_inv tx T 41 (by decide) (pos + 1) ex h1) (fun l q e g1 g2 g3 g4 => ?_)
        refine pOffers_inv tx T n _ q e p0 e0 g1 (by omega) (pends_append _ _ (pends_mono g2 _ h3) g3) ?_
        rw [cnts_append, Nat.mul_add]; omega
      · exact ⟨h1, h2, h3, by omega⟩
theorem pConds_inv (tx : ByteArray) (T : List Tk) (n pos : Nat) (ex : List (Nat × Nat)) (hx : ExOk T ex) : Inv T 1 pos ex (pConds tx T n pos ex) := by
  unfold pConds
  split
  · split
    · refine invL_bnd (pRows_inv (one_of (pEq_inv tx T)) (pos + 1) ex hx) (fun l q e h1 h2 h3 h4 => ?_)
      split
      · exact ⟨h1, h2, pend_list h3, by rw [cnt_list]; omega⟩
      · trivial
    · exact ⟨hx, Nat.le_refl _, pend_empty _, by rw [cnt_empty]; omega⟩
  · exact ⟨hx, Nat.le_refl _, pend_empty _, by rw [cnt_empty]; omega⟩
theorem pWins_inv (tx : ByteArray) (T : List Tk) (pos : Nat) (ex : List (Nat × Nat)) (hx : ExOk T ex) : Inv T 1 pos ex (pWins tx T pos ex) := by
  unfold pWins
  split
  · refine inv_bnd (pWindow_inv tx T pos ex hx) (fun l q e h1 h2 h3 h4 => ⟨h1, h2, pend_list (by rw [Pends, Pends]; exact ⟨h3, trivial⟩), ?_⟩)
    rw [cnt_list, cnts, cnts]; omega
  · exact ⟨hx, Nat.le_refl _, pend_empty _, by rw [cnt_empty]; omega⟩
theorem pAct_inv (tx : ByteArray) (T : List Tk) {pre : Nat → List (Nat × Nat) → Res Nd} (hb : InvF T pre) : InvF T (pAct tx T pre) := by
  intro pos ex hx
  unfold pAct pAction
  refine inv_bnd (c := 0) (pos := pos) (ex := ex) ?_ (fun x q e h1 h2 h3 h4 => ⟨h1, h2, h3, by omega⟩)
  refine invL_bnd (pOffers_inv tx T _ [] (pos + 1) ex (pos + 1) ex hx (Nat.le_refl _) (by rw [Pends]; trivial) (by rw [cnts]; omega)) (fun l q e h1 h2 h3 h4 => ?_)
  refine inv_bnd (pConds_inv tx T _ q e h1) (fun c q2 e2 g1 g2 g3 g4 => ?_)
  refine inv_bnd (pWins_inv tx T q2 e2 g1) (fun w q3 e3 k1 k2 k3 k4 => ?_)
  split
  · refine inv_bnd (hb (q3 + 1) e3 k1) (fun x q4 e4 m1 m2 m3 m4 => ⟨m1, by omega, ?_, ?_⟩)
    · simp only [Pend, Pends]
      refine ⟨fun h => absurd h (by decide), ?_, pend_list (pends_mono (by omega) _ h3), pend_mono (by omega) _ g3, pend_mono m2 _ k3, m3, trivial⟩
      unfold gateAt
      rw [Pend, Pends]
      exact ⟨fun h => absurd h (by decide), trivial⟩
    · have hg : cnt (gateAt tx T pos) = 1 := by unfold gateAt; rw [cnt, cnts]
      simp only [cnt, cnts, cnt_list, hg]; omega
  · trivial
theorem pPre_inv (tx : ByteArray) (T : List Tk) {pre beh : Nat → List (Nat × Nat) → Res Nd} (hp : InvF T pre) (hb : InvF T beh) : InvF T (pPre tx T pre beh) := by
  intro pos ex hx
  unfold pPre
  repeat (first | exact pGuard_inv tx T hp pos ex hx | exact pParen_inv tx T hb pos ex hx | exact pWait_inv tx T hp pos ex hx | exact pHide_inv tx T hb pos ex hx | exact pLet_inv tx T hb pos ex hx | exact pChoose_inv tx T hb pos ex hx | exact pStop_inv tx T pos ex hx | exact pExits_inv tx T pos ex hx | exact pAct_inv tx T hp pos ex hx | exact pCalls_inv tx T pos ex hx | trivial | split)
end Go.Proofs.YtjcocblohiglbaaGreatDoor
/- What the reader of behaviours reads is in bounds: the whole. Conditions: none. -/
namespace Go.Proofs.YtjcocblohiglbaaGreatDoor
open Go.Dp
set_option linter.unusedVariables false
theorem pB_inv (tx : ByteArray) (T : List Tk) : ∀ (n lv : Nat), lv ≤ 4 → InvF T (pB tx T n lv)
  | 0, lv, _ => fun pos ex hx => by rw [pB]; trivial
  | n + 1, 0, _ => by rw [pB]; exact pPre_inv tx T (pB_inv tx T n 0 (by omega)) (pB_inv tx T n 4 (by omega))
  | n + 1, 1, _ => by rw [pB]; exact pSum_inv tx T (pB_inv tx T n 0 (by omega)) (pB_inv tx T n 1 (by omega))
  | n + 1, 2, _ => by rw [pB]; exact pParts_inv tx T (pB_inv tx T n 1 (by omega)) (pB_inv tx T n 2 (by omega))
  | n + 1, 3, _ => by rw [pB]; exact pDis_inv tx T (pB_inv tx T n 2 (by omega)) (pB_inv tx T n 3 (by omega))
  | n + 1, 4, _ => by rw [pB]; exact pBeh_inv tx T (pB_inv tx T n 3 (by omega)) (pB_inv tx T n 4 (by omega))
/-- A behaviour's reading has all that is needed. -/
theorem good_behaviour {tx : ByteArray} {T : List Tk} {A F : List (ByteArray × Mx)} (hT : T.length ≤ 100000) {n : Nd} {q : Nat} {ex : List (Nat × Nat)} (h : pBehaviour tx T 0 [] = .ok n q ex) : Good T A F n ex := by
  have hw := pB_wf tx T (8 * T.length + 8) 4 0 [] (Nat.zero_le _) (Nat.le_refl _)
  have hi := pB_inv tx T (8 * T.length + 8) 4 (Nat.le_refl _) 0 [] (fun x hx => by cases hx)
  unfold pBehaviour at h
  rw [h] at hw hi
  obtain ⟨h1, h2, h3, h4⟩ := hi
  have h5 := hw.2.1
  have h6 := hw.2.2
  exact good_of hT (by omega) h1 (by omega) h3
end Go.Proofs.YtjcocblohiglbaaGreatDoor
