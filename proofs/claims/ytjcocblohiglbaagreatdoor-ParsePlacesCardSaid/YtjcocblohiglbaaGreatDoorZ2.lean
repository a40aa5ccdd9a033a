/- Places: what the law asks of a tree; how pieces that are read one behind the other meet it. Conditions: none. -/
import Derived.Test.YtjcocblohiglbaaGreatDoorZ1
namespace Go.Proofs.YtjcocblohiglbaaGreatDoor
open Go.Dp
set_option linter.unusedVariables false
set_option linter.unusedSimpArgs false
/-! #### Tokens stand one behind the other -/
structure Srt (tx : ByteArray) (T : List Tk) : Prop where
  lt : ∀ i, i < T.length → here tx T i < behind T (i + 1)
  le : ∀ i, i ≤ T.length → behind T i ≤ here tx T i
section
variable {tx : ByteArray} {T : List Tk}
theorem Srt.here_mono (h : Srt tx T) {p q : Nat} (hpq : p ≤ q) (hq : q ≤ T.length) : here tx T p ≤ here tx T q := by
  induction q with
  | zero => rw [show p = 0 by omega]; exact Nat.le_refl _
  | succ q ih =>
    by_cases hp : p = q + 1
    · subst hp; exact Nat.le_refl _
    · have h1 := ih (by omega) (by omega)
      have h2 := h.lt q (by omega)
      have h3 := h.le (q + 1) hq
      omega
theorem Srt.hb (h : Srt tx T) {p q : Nat} (hpq : p < q) (hq : q ≤ T.length) : here tx T p < behind T q := by
  obtain ⟨q, rfl⟩ : ∃ k, q = k + 1 := ⟨q - 1, by omega⟩
  have h1 := h.here_mono (p := p) (q := q) (by omega) (by omega)
  have h2 := h.lt q (by omega)
  omega
theorem Srt.bh (h : Srt tx T) {p q : Nat} (hpq : q ≤ p) (hq : p ≤ T.length) : behind T q ≤ here tx T p :=
  Nat.le_trans (h.le q (by omega)) (h.here_mono hpq hq)
theorem Srt.behind_mono (h : Srt tx T) {p q : Nat} (hpq : p ≤ q) (hq : q ≤ T.length) : behind T p ≤ behind T q := by
  by_cases hp : p = q
  · subst hp; exact Nat.le_refl _
  · have h1 := h.hb (p := p) (q := q) (by omega) hq
    have h2 := h.le p (by omega)
    omega
theorem runs_srt {l : Lex.Bytes} {p : Nat} {ts : List Lex.Tok} {cs : List (Nat × Nat)} {l' : Lex.Bytes} {p' : Nat} (h : Lex.Runs l p ts cs l' p') : ∀ i t, ts[i]? = some t → p ≤ t.b ∧ t.b < t.e ∧ t.e ≤ p' ∧ ∀ u, ts[i + 1]? = some u → t.e ≤ u.b := by
  induction h with
  | nil l p => intro i t h; simp at h
  | skip h r ih =>
    intro i t h
    obtain ⟨h1, h2, h3, h4⟩ := ih i t h
    exact ⟨by omega, h2, h3, h4⟩
  | comm h r ih =>
    intro i t h
    obtain ⟨h1, h2, h3, h4⟩ := ih i t h
    exact ⟨by omega, h2, h3, h4⟩
  | tok h r ih =>
    intro i t ht
    have hk := Lex.step_tok h
    have hf := runs_few r
    cases i with
    | zero =>
      simp only [List.getElem?_cons_zero, Option.some.injEq] at ht
      subst ht
      refine ⟨Nat.le_refl _, ?_, ?_, fun u hu => ?_⟩
      · dsimp only; omega
      · dsimp only; omega
      · rw [List.getElem?_cons_succ] at hu
        exact (ih 0 u hu).1
    | succ i =>
      rw [List.getElem?_cons_succ] at ht
      obtain ⟨h1, h2, h3, h4⟩ := ih i t ht
      exact ⟨by omega, h2, h3, fun u hu => h4 u (by rw [List.getElem?_cons_succ] at hu; exact hu)⟩
theorem srt_of {ts : List Lex.Tok} {cs : List (Nat × Nat)} (h : Lex.cutL tx.data.toList = .done ts cs) : Srt tx (ts.map toTk) := by
  have hr := runs_srt (Lex.cut_done h)
  have hl : tx.data.toList.length = tx.size := Array.length_toList
  rw [hl] at hr
  have hh : ∀ i t, ts[i]? = some t → here tx (ts.map toTk) i = t.b := fun i t h => by
    rw [here, List.getElem?_map, h]; rfl
  have hb : ∀ i t, ts[i]? = some t → behind (ts.map toTk) (i + 1) = t.e := fun i t h => by
    rw [behind, Nat.add_sub_cancel, List.getElem?_map, h]
    show (if i + 1 = 0 then 0 else t.e) = t.e
    rw [if_neg (by omega)]
  refine ⟨fun i hi => ?_, fun i hi => ?_⟩
  · rw [List.length_map] at hi
    have ht := List.getElem?_eq_getElem hi
    rw [hh i _ ht, hb i _ ht]
    exact (hr i _ ht).2.1
  · rw [List.length_map] at hi
    cases i with
    | zero =>
      have : behind (ts.map toTk) 0 = 0 := by
        rw [behind]
        split
        · rw [if_pos rfl]
        · rfl
      omega
    | succ i =>
      have ht := List.getElem?_eq_getElem (show i < ts.length by omega)
      rw [hb i _ ht]
      by_cases hi2 : i + 1 < ts.length
      · have hu := List.getElem?_eq_getElem hi2
        rw [hh _ _ hu]
        exact (hr i _ ht).2.2.2 _ hu
      · have : here tx (ts.map toTk) (i + 1) = tx.size := by
          rw [here, List.getElem?_eq_none (by rw [List.length_map]; omega)]
        rw [this]
        exact (hr i _ ht).2.2.1
end
/-! #### What the law asks of a node -/
mutual
def wl (AL : Nd → Prop) : Nd → Prop
  | .mk k n s l b e => b ≤ e ∧ AL (.mk k n s l b e) ∧ if k = 9 ∨ k = 41 then True else if k = 24 ∨ k = 26 then wlf AL b e l else wls AL e b l
def wls (AL : Nd → Prop) (e : Int) : Int → List Nd → Prop
  | _, [] => True
  | last, x :: l => if x.b = x.e ∧ x.l = [] then wls AL e last l else last ≤ x.b ∧ x.e ≤ e ∧ wl AL x ∧ wls AL e x.e l
def wlf (AL : Nd → Prop) (b e : Int) : List Nd → Prop
  | [] => True
  | x :: l => (x.l ≠ [] → b ≤ x.b ∧ x.e ≤ e ∧ wl AL x) ∧ wls AL e b l
end
/-- All but what is read at its own place. -/
def wlK (AL : Nd → Prop) (x : Nd) : Prop := x.b ≤ x.e ∧ if x.kind = 9 ∨ x.kind = 41 then True else if x.kind = 24 ∨ x.kind = 26 then wlf AL x.b x.e x.l else wls AL x.e x.b x.l
theorem wlK_eq {AL : Nd → Prop} {k n : Int} {s : ByteArray} {l : List Nd} {b e : Int} : wlK AL (.mk k n s l b e) = (b ≤ e ∧ if k = 9 ∨ k = 41 then True else if k = 24 ∨ k = 26 then wlf AL b e l else wls AL e b l) := rfl
theorem wl_of {AL : Nd → Prop} {x : Nd} (h : wlK AL x) (h' : AL x) : wl AL x := by
  obtain ⟨k, n, s, l, b, e⟩ := x
  rw [wl]
  exact ⟨h.1, h', h.2⟩
theorem wl_k {AL : Nd → Prop} {x : Nd} (h : wl AL x) : wlK AL x := by
  obtain ⟨k, n, s, l, b, e⟩ := x
  rw [wl] at h
  exact ⟨h.1, h.2.2⟩
theorem wl_al {AL : Nd → Prop} {x : Nd} (h : wl AL x) : AL x := by
  obtain ⟨k, n, s, l, b, e⟩ := x
  rw [wl] at h
  exact h.2.1
theorem wls_wide {AL : Nd → Prop} : ∀ {l : List Nd} {e e' last last' : Int}, e ≤ e' → last' ≤ last → wls AL e last l → wls AL e' last' l
  | [], _, _, _, _, _, _, h => by rw [wls]; trivial
  | x :: l, e, e', last, last', h1, h2, h => by
    rw [wls] at h ⊢
    split
    · rename_i c; rw [if_pos c] at h; exact wls_wide h1 h2 h
    · rename_i c; rw [if_neg c] at h; exact ⟨by omega, by omega, h.2.2.1, wls_wide h1 (Int.le_refl _) h.2.2.2⟩
theorem wlK_wide {AL : Nd → Prop} {x : Nd} {b e : Int} (h : wlK AL x) (hb : b ≤ x.b) (he : x.e ≤ e) : wlK AL (.mk x.kind x.n x.s x.l b e) := by
  obtain ⟨k, n, s, l, b0, e0⟩ := x
  rw [wlK_eq] at h
  show wlK AL (.mk k n s l b e)
  rw [wlK_eq]
  dsimp only [Nd.b, Nd.e] at hb he
  have h1 := h.1
  refine ⟨by omega, ?_⟩
  have h2 := h.2
  split
  · trivial
  · rename_i c
    rw [if_neg c] at h2
    split
    · rename_i c2
      rw [if_pos c2] at h2
      cases l with
      | nil => rw [wlf]; trivial
      | cons x l =>
        rw [wlf] at h2 ⊢
        exact ⟨fun hx => by have := h2.1 hx; exact ⟨by omega, by omega, this.2.2⟩, wls_wide he hb h2.2⟩
    · rename_i c2
      rw [if_neg c2] at h2
      exact wls_wide he hb h2
/-! #### Nodes at tokens -/
/-- A kind that is read at its own place. -/
def Own (k : Int) : Prop := (20 ≤ k ∧ k ≤ 33) ∨ k = 50 ∨ k = 51
/-- A kind that is no expression's. -/
def Bhk (k : Int) : Prop := k ≠ -1 ∧ k ≠ 50 ∧ k ≠ 51
structure AtK (tx : ByteArray) (T : List Tk) (AL : Nd → Prop) (vs : List Nd) (p q : Nat) (x : Nd) : Prop where
  lt : p < q
  le : q ≤ T.length
  b : x.b = here tx T p
  e : x.e = behind T q
  k : Bhk x.kind
  w : wlK AL (fill vs x)
structure Ats (tx : ByteArray) (T : List Tk) (AL : Nd → Prop) (vs : List Nd) (p q : Nat) (x : Nd) : Prop where
  lt : p < q
  le : q ≤ T.length
  b : x.b = here tx T p
  e : x.e = behind T q
  fb : (fill vs x).b = here tx T p
  fe : (fill vs x).e = behind T q
  w : wl AL (fill vs x)
theorem fill_mk {vs : List Nd} {x : Nd} (h : x.kind ≠ -1) : fill vs x = .mk x.kind x.n x.s (fills vs x.l) x.b x.e := by rw [fill_eq, if_neg h]
section
variable {tx : ByteArray} {T : List Tk} {AL : Nd → Prop} {vs : List Nd}
theorem AtK.own {p q : Nat} {x : Nd} (h : AtK tx T AL vs p q x) (ha : AL (fill vs x)) : Ats tx T AL vs p q x := by
  refine ⟨h.lt, h.le, h.b, h.e, ?_, ?_, wl_of h.w ha⟩
  · rw [fill_mk h.k.1]; exact h.b
  · rw [fill_mk h.k.1]; exact h.e
theorem Ats.k {p q : Nat} {x : Nd} (h : Ats tx T AL vs p q x) (hk : Bhk x.kind) : AtK tx T AL vs p q x := ⟨h.lt, h.le, h.b, h.e, hk, wl_k h.w⟩
/-- A node that may have no tokens. -/
def Opt (tx : ByteArray) (T : List Tk) (AL : Nd → Prop) (vs : List Nd) (p q : Nat) (x : Nd) : Prop := p ≤ q ∧ ((∃ b, x = emptyAt b) ∨ ∃ p1 q1, p ≤ p1 ∧ q1 ≤ q ∧ Ats tx T AL vs p1 q1 x)
inductive Chn (tx : ByteArray) (T : List Tk) (AL : Nd → Prop) (vs : List Nd) : Nat → Nat → List Nd → Prop
  | nil {p q : Nat} (h : p ≤ q) : Chn tx T AL vs p q []
  | cons {p q r : Nat} {x : Nd} {l : List Nd} (h : Opt tx T AL vs p q x) (hl : Chn tx T AL vs q r l) : Chn tx T AL vs p r (x :: l)
theorem Ats.opt {p q : Nat} {x : Nd} (h : Ats tx T AL vs p q x) : Opt tx T AL vs p q x := ⟨Nat.le_of_lt h.lt, .inr ⟨p, q, Nat.le_refl _, Nat.le_refl _, h⟩⟩
theorem Opt.wide {p q p' q' : Nat} {x : Nd} (h : Opt tx T AL vs p q x) (hp : p' ≤ p) (hq : q ≤ q') : Opt tx T AL vs p' q' x := by
  refine ⟨by have := h.1; omega, ?_⟩
  rcases h.2 with h | ⟨p1, q1, h1, h2, h⟩
  · exact .inl h
  · exact .inr ⟨p1, q1, by omega, by omega, h⟩
theorem Chn.at {p p1 q1 r : Nat} {x : Nd} {l : List Nd} (h : Ats tx T AL vs p1 q1 x) (hp : p ≤ p1) (hl : Chn tx T AL vs q1 r l) : Chn tx T AL vs p r (x :: l) := .cons (h.opt.wide hp (Nat.le_refl _)) hl
theorem Chn.opt {p p1 q1 r : Nat} {x : Nd} {l : List Nd} (h : Opt tx T AL vs p1 q1 x) (hp : p ≤ p1) (hl : Chn tx T AL vs q1 r l) : Chn tx T AL vs p r (x :: l) := .cons (h.wide hp (Nat.le_refl _)) hl
theorem Chn.emp {p r : Nat} {b : Int} {l : List Nd} (hl : Chn tx T AL vs p r l) : Chn tx T AL vs p r (emptyAt b :: l) := .cons ⟨Nat.le_refl _, .inl ⟨b, rfl⟩⟩ hl
theorem Chn.le {p q : Nat} {l : List Nd} (h : Chn tx T AL vs p q l) : p ≤ q := by
  induction h with
  | nil h => exact h
  | cons h hl ih => have := h.1; omega
theorem Chn.fore {p p' q : Nat} {l : List Nd} (h : Chn tx T AL vs p q l) (hp : p' ≤ p) : Chn tx T AL vs p' q l := by
  cases h with
  | nil h => exact .nil (by omega)
  | cons h hl => exact .cons (h.wide hp (Nat.le_refl _)) hl
theorem Chn.hind {p q q' : Nat} {l : List Nd} (h : Chn tx T AL vs p q l) (hq : q ≤ q') : Chn tx T AL vs p q' l := by
  induction h with
  | nil h => exact .nil (by omega)
  | cons h hl ih => exact .cons h (ih hq)
theorem fill_empty (b : Int) : fill vs (emptyAt b) = emptyAt b := by rw [emptyAt, fill, if_neg (by decide), fills]
theorem Chn.wls (H : Srt tx T) {p q : Nat} {l : List Nd} (h : Chn tx T AL vs p q l) : ∀ {e last : Int}, q ≤ T.length → last ≤ here tx T p → (behind T q : Int) ≤ e → wls AL e last (fills vs l) := by
  induction h with
  | nil h => intro e last _ _ _; rw [fills, Go.Proofs.YtjcocblohiglbaaGreatDoor.wls]; trivial
  | @cons p q r x l h hl ih =>
    intro e last hr h1 h2
    have hqr := hl.le
    have hpq := h.1
    rw [fills, Go.Proofs.YtjcocblohiglbaaGreatDoor.wls]
    rcases h.2 with ⟨b, rfl⟩ | ⟨p1, q1, a1, a2, a⟩
    · rw [fill_empty, if_pos ⟨rfl, rfl⟩]
      have := H.here_mono hpq (by omega)
      exact ih hr (by omega) h2
    · have g1 := H.hb a.lt a.le
      have g2 := H.here_mono a1 (by have := a.lt; omega)
      have g3 := H.behind_mono (p := q1) (q := r) (by omega) hr
      have g4 := H.bh a2 (by omega)
      rw [if_neg (fun c => by have := c.1; rw [a.fb, a.fe] at this; omega), a.fb, a.fe]
      exact ⟨by omega, by omega, a.w, ih hr (by omega) h2⟩
/-! #### Nodes one behind the other -/
inductive Sq (tx : ByteArray) (T : List Tk) (AL : Nd → Prop) (vs : List Nd) : Nat → Nat → List Nd → Prop
  | one {p q : Nat} {x : Nd} (h : Ats tx T AL vs p q x) : Sq tx T AL vs p q [x]
  | cons {p q p' r : Nat} {x : Nd} {l : List Nd} (h : Ats tx T AL vs p q x) (hp : q ≤ p') (hl : Sq tx T AL vs p' r l) : Sq tx T AL vs p r (x :: l)
theorem Sq.append {p q p' r : Nat} {l m : List Nd} (h : Sq tx T AL vs p q l) (hq : q ≤ p') (h' : Sq tx T AL vs p' r m) : Sq tx T AL vs p r (l ++ m) := by
  induction h with
  | one h => exact .cons h hq h'
  | cons h hp hl ih => exact .cons h hp (ih hq)
theorem Sq.chn {p q : Nat} {l : List Nd} (h : Sq tx T AL vs p q l) : Chn tx T AL vs p q l := by
  induction h with
  | one h => exact .at h (Nat.le_refl _) (.nil (Nat.le_refl _))
  | cons h hp hl ih => exact .at h (Nat.le_refl _) (ih.fore hp)
theorem Sq.ends {p q : Nat} {l : List Nd} (h : Sq tx T AL vs p q l) : p < q ∧ q ≤ T.length ∧ ∃ a r, l = a :: r ∧ a.b = here tx T p ∧ ∃ hne : a :: r ≠ [], ((a :: r).getLast hne).e = behind T q := by
  induction h with
  | one h => exact ⟨h.lt, h.le, _, _, rfl, h.b, by simp, h.e⟩
  | cons h hp hl ih =>
    obtain ⟨h1, h2, a, r, rfl, h3, h4, h5⟩ := ih
    exact ⟨by have := h.lt; omega, h2, _, _, rfl, h.b, by simp, by rw [List.getLast_cons h4]; exact h5⟩
/-! #### Nodes are made -/
structure Ctx (tx : ByteArray) (T : List Tk) (AL : Nd → Prop) (vs : List Nd) (E : List (Nat × Nat)) : Prop where
  so : Srt tx T
  al : ∀ x : Nd, ¬ Own x.kind → AL x
  hs : ∀ i p q, E[i]? = some (p, q) → (vs.getD i default).b = here tx T p ∧ (vs.getD i default).e = behind T q ∧ wl AL (vs.getD i default)
theorem wlK_mk (H : Srt tx T) {k n : Int} {s : ByteArray} {l : List Nd} {p q : Nat} (hk : k ≠ -1 ∧ k ≠ 24 ∧ k ≠ 26) (h1 : p < q) (h2 : q ≤ T.length) (c : Chn tx T AL vs p q l) : wlK AL (fill vs (.mk k n s l (here tx T p) (max (here tx T p : Int) (behind T q)))) := by
  have h3 := H.hb h1 h2
  rw [fill, if_neg hk.1, wlK_eq]
  refine ⟨by omega, ?_⟩
  split
  · trivial
  · rw [if_neg (by omega)]
    exact c.wls H h2 (Int.le_refl _) (by omega)
theorem atK_mk (H : Srt tx T) {k n : Int} {s : ByteArray} {l : List Nd} {p q : Nat} (hk : (k ≠ -1 ∧ k ≠ 50 ∧ k ≠ 51) ∧ k ≠ 24 ∧ k ≠ 26) (h1 : p < q) (h2 : q ≤ T.length) (c : Chn tx T AL vs p q l) : AtK tx T AL vs p q (.mk k n s l (here tx T p) (max (here tx T p : Int) (behind T q))) := by
  have h3 := H.hb h1 h2
  exact ⟨h1, h2, rfl, by dsimp only [Nd.e]; omega, hk.1, wlK_mk H ⟨hk.1.1, hk.2⟩ h1 h2 c⟩
theorem at_mk {E : List (Nat × Nat)} (H : Ctx tx T AL vs E) {k n : Int} {s : ByteArray} {l : List Nd} {p q : Nat} (hk : k ≠ -1 ∧ k ≠ 24 ∧ k ≠ 26 ∧ ¬ ((20 ≤ k ∧ k ≤ 33) ∨ k = 50 ∨ k = 51)) (h1 : p < q) (h2 : q ≤ T.length) (c : Chn tx T AL vs p q l) : Ats tx T AL vs p q (.mk k n s l (here tx T p) (max (here tx T p : Int) (behind T q))) :=
  (atK_mk H.so ⟨⟨hk.1, fun h => hk.2.2.2 (.inr (.inl h)), fun h => hk.2.2.2 (.inr (.inr h))⟩, hk.2.1, hk.2.2.1⟩ h1 h2 c).own (H.al _ (by rw [fill, if_neg hk.1]; exact hk.2.2.2))
/-- A node whose first one stands between two behaviours. -/
theorem atK_two (H : Srt tx T) {k n : Int} {s : ByteArray} {x : Nd} {l : List Nd} {p q : Nat} (hk : k = 24 ∨ k = 26) (h1 : p < q) (h2 : q ≤ T.length) (o : Opt tx T AL vs p q x) (c : Chn tx T AL vs p q l) : AtK tx T AL vs p q (.mk k n s (x :: l) (here tx T p) (max (here tx T p : Int) (behind T q))) := by
  have h3 := H.hb h1 h2
  refine ⟨h1, h2, rfl, by dsimp only [Nd.e]; omega, by show Bhk k; unfold Bhk; omega, ?_⟩
  rw [fill, if_neg (by omega), wlK_eq]
  refine ⟨by omega, ?_⟩
  rw [if_neg (by omega), if_pos hk, fills, wlf]
  refine ⟨fun hx => ?_, c.wls H h2 (Int.le_refl _) (by omega)⟩
  rcases o.2 with ⟨b, rfl⟩ | ⟨p1, q1, a1, a2, a⟩
  · rw [fill_empty] at hx; exact absurd rfl hx
  · have g2 := H.here_mono a1 (by have := a.lt; omega)
    have g3 := H.behind_mono (p := q1) (q := q) (by omega) h2
    rw [a.fb, a.fe]
    exact ⟨by omega, by omega, a.w⟩
theorem Sq.list {E : List (Nat × Nat)} (H : Ctx tx T AL vs E) {p q : Nat} {l : List Nd} {w : Nd} (h : Sq tx T AL vs p q l) : Ats tx T AL vs p q (pList w l) := by
  obtain ⟨h1, h2, a, r, rfl, h3, h4, h5⟩ := h.ends
  have := at_mk H (k := 8) (n := 0) (s := ⟨#[]⟩) (by decide) h1 h2 h.chn
  have h6 := H.so.hb h1 h2
  rw [show max (here tx T p : Int) (behind T q) = behind T q by omega, ← h3, ← h5] at this
  exact this
theorem atK_paren (H : Srt tx T) {p q p1 q1 : Nat} {x : Nd} (h : AtK tx T AL vs p1 q1 x) (h1 : p ≤ p1) (h2 : q1 ≤ q) (h3 : q ≤ T.length) : AtK tx T AL vs p q (.mk x.kind x.n x.s x.l (here tx T p) (behind T q)) := by
  have hlt := h.lt
  have g1 := H.here_mono h1 (by omega)
  have g2 := H.behind_mono h2 h3
  refine ⟨by omega, h3, rfl, rfl, h.k, ?_⟩
  have hw := h.w
  have hk := h.k.1
  rw [fill_mk (by exact hk)] at hw ⊢
  have := wlK_wide (b := (here tx T p : Int)) (e := (behind T q : Int)) hw (by show _ ≤ x.b; rw [h.b]; omega) (by show x.e ≤ _; rw [h.e]; omega)
  exact this
end
end Go.Proofs.YtjcocblohiglbaaGreatDoor
/- Places: leaves of the reader of behaviours. Conditions: none. -/
namespace Go.Proofs.YtjcocblohiglbaaGreatDoor
open Go.Dp
set_option linter.unusedVariables false
set_option linter.unusedSimpArgs false
structure St (T : List Tk) (pos : Nat) (ex : List (Nat × Nat)) : Prop where
  p : pos ≤ T.length
  e : ex.length ≤ pos
  x : ExOk T ex
/-- What is read: where it ends; what is known of it, if its extents are those of the whole. -/
def Pl {α : Type} (T : List Tk) (E : List (Nat × Nat)) (lo : Nat) (ex : List (Nat × Nat)) (R : Nat → α → Prop) : Res α → Prop
  | .ok x q e => St T q e ∧ lo ≤ q ∧ ex <+: e ∧ (e <+: E → R q x)
  | .bad _ => True
section
variable {T : List Tk} {E : List (Nat × Nat)}
theorem St.up {pos pos' : Nat} {ex : List (Nat × Nat)} (h : St T pos ex) (h1 : pos ≤ pos') (h2 : pos' ≤ T.length) : St T pos' ex := ⟨h2, Nat.le_trans h.e h1, h.x⟩
theorem pl_bnd {α β : Type} {lo lo1 : Nat} {ex : List (Nat × Nat)} {R1 : Nat → α → Prop} {R : Nat → β → Prop} {r : Res α} {f : α → Nat → List (Nat × Nat) → Res β} (h : Pl T E lo1 ex R1 r) (k : ∀ x q e, lo1 ≤ q → q ≤ T.length → St T q e → Pl T E lo e (fun q' y => R1 q x → R q' y) (f x q e)) : Pl T E lo ex R (r.bnd f) := by
  cases r with
  | bad q => trivial
  | ok x q e =>
    obtain ⟨h1, h2, h3, h4⟩ := h
    have := k x q e h2 h1.p h1
    show Pl T E lo ex R (f x q e)
    cases hf : f x q e with
    | bad q => trivial
    | ok y q' e' =>
      rw [hf] at this
      obtain ⟨g1, g2, g3, g4⟩ := this
      exact ⟨g1, g2, h3.trans g3, fun hE => g4 hE (h4 (g3.trans hE))⟩
theorem pl_ok {α : Type} {lo q : Nat} {e : List (Nat × Nat)} {R : Nat → α → Prop} {x : α} (h : St T q e) (hl : lo ≤ q) (hR : R q x) : Pl T E lo e R (.ok x q e) := ⟨h, hl, List.prefix_refl _, fun _ => hR⟩
theorem pl_mono {α : Type} {lo lo' : Nat} {ex : List (Nat × Nat)} {R R' : Nat → α → Prop} {r : Res α} (h : Pl T E lo ex R r) (hl : lo' ≤ lo) (k : ∀ q x, lo ≤ q → q ≤ T.length → R q x → R' q x) : Pl T E lo' ex R' r := by
  cases r with
  | bad q => trivial
  | ok x q e => exact ⟨h.1, Nat.le_trans hl h.2.1, h.2.2.1, fun hE => k q x h.2.1 h.1.p (h.2.2.2 hE)⟩
theorem pl_tok {α : Type} {pos lo : Nat} {s : ByteArray} {ex : List (Nat × Nat)} {R : Nat → α → Prop} {r r' : Res α} (hs : St T pos ex) (k : pos < T.length → St T (pos + 1) ex → Pl T E lo ex R r) (k' : Pl T E lo ex R r') : Pl T E lo ex R (if isT (tokAt T pos) s = true then r else r') := by
  split
  · rename_i c
    have := isT_lt c
    exact k this (hs.up (by omega) (by omega))
  · exact k'
theorem pl_kd {α : Type} {pos lo : Nat} {n : Int} {ex : List (Nat × Nat)} {R : Nat → α → Prop} {r r' : Res α} (hn : n ≠ 0) (hs : St T pos ex) (k : pos < T.length → St T (pos + 1) ex → Pl T E lo ex R r) (k' : Pl T E lo ex R r') : Pl T E lo ex R (if (tokAt T pos).kind = n then r else r') := by
  split
  · rename_i c
    have := tokAt_lt (T := T) (pos := pos) (by omega)
    exact k this (hs.up (by omega) (by omega))
  · exact k'
end
section
variable {tx : ByteArray} {T : List Tk} {AL : Nd → Prop} {vs : List Nd} {E : List (Nat × Nat)} (H : Ctx tx T AL vs E)
include H
theorem pName_p (pos : Nat) (ex : List (Nat × Nat)) (hs : St T pos ex) : Pl T E (pos + 1) ex (Ats tx T AL vs pos) (pName tx T pos ex) := by
  unfold pName
  refine pl_kd (by decide) hs (fun ht hs => ?_) trivial
  exact pl_ok hs (Nat.le_refl _) (at_mk H (by decide) (by omega) (by omega) (.nil (by omega)))
theorem pNumber_p (pos : Nat) (ex : List (Nat × Nat)) (hs : St T pos ex) : Pl T E (pos + 1) ex (Ats tx T AL vs pos) (pNumber tx T pos ex) := by
  unfold pNumber
  refine pl_kd (by decide) hs (fun ht hs => ?_) trivial
  exact pl_ok hs (Nat.le_refl _) (at_mk H (by decide) (by omega) (by omega) (.nil (by omega)))
theorem pExpr_p (pos : Nat) (ex : List (Nat × Nat)) (hs : St T pos ex) : Pl T E (pos + 1) ex (Ats tx T AL vs pos) (pExpr tx T pos ex) := by
  unfold pExpr
  split
  · rename_i h
    obtain ⟨d, hd⟩ := opens_step h 0
    have h1 := exprStep_lt T hd
    have h2 : pos + 1 ≤ exprEnd T (T.length + 1) 0 pos := by
      rw [exprEnd, hd]
      exact exprEnd_ge T _ _ _
    have h3 := exprEnd_le (T := T) (T.length + 1) 0 pos (Nat.le_of_lt h1)
    generalize exprEnd T (T.length + 1) 0 pos = q at h2 h3
    have h4 := H.so.hb (p := pos) (q := q) (by omega) h3
    have he := hs.e
    refine ⟨⟨h3, by simp only [List.length_append, List.length_cons, List.length_nil]; omega, fun x hm => ?_⟩, h2, List.prefix_append _ _, fun hE => ?_⟩
    · rcases List.mem_append.1 hm with hm | hm
      · exact hs.x x hm
      · rw [List.mem_singleton] at hm
        subst hm
        exact ⟨by dsimp only; omega, h3⟩
    · obtain ⟨r, hr⟩ := hE
      have hg : E[ex.length]? = some (pos, q) := by
        rw [← hr, List.getElem?_append_left (by simp), List.getElem?_append_right (Nat.le_refl _), Nat.sub_self]
        rfl
      obtain ⟨g1, g2, g3⟩ := H.hs _ _ _ hg
      have hf : fill vs (.mk (-1) (ex.length : Int) ⟨#[]⟩ [] (here tx T pos) (max (here tx T pos : Int) (behind T q))) = vs.getD ex.length default := by
        rw [fill, if_pos rfl, Int.toNat_natCast]
      refine ⟨by omega, h3, rfl, ?_, ?_, ?_, ?_⟩
      · dsimp only [Nd.e]; omega
      · rw [hf]; exact g1
      · rw [hf]; exact g2
      · rw [hf]; exact g3
  · trivial
omit H in
theorem pRowsL_p {one : Nat → List (Nat × Nat) → Res Nd} (h1 : ∀ pos ex, St T pos ex → Pl T E (pos + 1) ex (Ats tx T AL vs pos) (one pos ex)) (p0 : Nat) : ∀ (n : Nat) (acc : List Nd) (pos : Nat) (ex : List (Nat × Nat)), St T pos ex → Pl T E pos ex (fun q l => Sq tx T AL vs p0 pos acc → Sq tx T AL vs p0 q l) (pRowsL T one n acc pos ex)
  | 0, acc, pos, ex, hs => by rw [pRowsL]; trivial
  | n + 1, acc, pos, ex, hs => by
    rw [pRowsL]
    refine pl_tok hs (fun ht hs' => ?_) (pl_ok hs (Nat.le_refl _) id)
    have h := h1 (pos + 1) ex hs'
    cases hr : one (pos + 1) ex with
    | bad q => trivial
    | ok a q e =>
      rw [hr] at h
      refine pl_bnd (r := .ok a q e) (f := fun a q e => pRowsL T one n (acc ++ [a]) q e) h (fun x q e hl hT hs => ?_)
      exact pl_mono (pRowsL_p h1 p0 n (acc ++ [x]) q e hs) (by omega) (fun q' l _ _ k hx hacc => k (hacc.append (by omega) (.one hx)))
omit H in
theorem pRows_p {one : Nat → List (Nat × Nat) → Res Nd} (h1 : ∀ pos ex, St T pos ex → Pl T E (pos + 1) ex (Ats tx T AL vs pos) (one pos ex)) (pos : Nat) (ex : List (Nat × Nat)) (hs : St T pos ex) : Pl T E (pos + 1) ex (Sq tx T AL vs pos) (pRows T one pos ex) := by
  rw [pRows]
  have h := h1 pos ex hs
  cases hr : one pos ex with
  | bad q => trivial
  | ok a q e =>
    rw [hr] at h
    refine pl_bnd (r := .ok a q e) (f := fun a q e => pRowsL T one (T.length + 1) [a] q e) h (fun x q e hl hT hs => ?_)
    exact pl_mono (pRowsL_p h1 pos (T.length + 1) [x] q e hs) (by omega) (fun q' l _ _ k hx => k (.one hx))
theorem pNames_p (pos : Nat) (ex : List (Nat × Nat)) (hs : St T pos ex) : Pl T E (pos + 1) ex (Ats tx T AL vs pos) (pNames tx T pos ex) := by
  unfold pNames
  refine pl_bnd (pRows_p (pName_p H) _ _ hs) (fun x q e hl hT hs => ?_)
  exact pl_ok hs hl (fun h => h.list H)
theorem pGates_p (pos : Nat) (ex : List (Nat × Nat)) (hs : St T pos ex) : Pl T E pos ex (Opt tx T AL vs pos) (pGates tx T pos ex) := by
  unfold pGates
  refine pl_tok hs (fun ht hs => ?_) (pl_ok hs (Nat.le_refl _) ⟨Nat.le_refl _, .inl ⟨_, rfl⟩⟩)
  refine pl_bnd (pRows_p (pName_p H) _ _ hs) (fun x q e hl hT hs => ?_)
  refine pl_tok hs (fun ht hs => ?_) trivial
  exact pl_ok hs (by omega) (fun h => (at_mk H (by decide) (by omega) (by omega) ((h.chn.fore (by omega)).hind (by omega))).opt)
theorem sq_share {k : Int} {so : Nd} (hk : k = 9 ∨ k = 41) {p q : Nat} {l : List Nd} (h : Sq tx T AL vs p q l) : Sq tx T AL vs p q (l.map (share k so)) := by
  have h1 : ∀ {p q : Nat} {x : Nd}, Ats tx T AL vs p q x → Ats tx T AL vs p q (share k so x) := fun {p q x} h => by
    have hb := H.so.hb h.lt h.le
    have hf : fill vs (share k so x) = .mk k x.n x.s (fills vs [so]) x.b x.e := by rw [share, fill, if_neg (by omega)]
    refine ⟨h.lt, h.le, h.b, h.e, by rw [hf]; exact h.b, by rw [hf]; exact h.e, ?_⟩
    rw [hf, wl, if_pos hk]
    exact ⟨by rw [h.b, h.e]; omega, H.al _ (by dsimp only [Nd.kind, Own]; omega), trivial⟩
  induction h with
  | one h => exact .one (h1 h)
  | cons h hp hl ih => exact .cons (h1 h) hp ih
theorem pShared_p {k : Int} (hk : k = 9 ∨ k = 41) (pos : Nat) (ex : List (Nat × Nat)) (hs : St T pos ex) : Pl T E (pos + 1) ex (fun q l => ∃ q1, q1 ≤ q ∧ Sq tx T AL vs pos q1 l) (pShared tx T k pos ex) := by
  unfold pShared
  refine pl_bnd (pRows_p (pName_p H) _ _ hs) (fun x q e hl hT hs => ?_)
  refine pl_tok hs (fun ht hs => ?_) trivial
  refine pl_bnd (pName_p H _ _ hs) (fun so q2 e hl2 hT hs => ?_)
  exact pl_ok hs (by omega) (fun _ h => ⟨q, by omega, sq_share H hk h⟩)
theorem pDeclsL_p (p0 : Nat) : ∀ (n : Nat) (acc : List Nd) (pos : Nat) (ex : List (Nat × Nat)), St T pos ex → Pl T E pos ex (fun q l => (∃ q1, q1 ≤ pos ∧ Sq tx T AL vs p0 q1 acc) → ∃ q1, q1 ≤ q ∧ Sq tx T AL vs p0 q1 l) (pDeclsL tx T n acc pos ex)
  | 0, acc, pos, ex, hs => by rw [pDeclsL]; trivial
  | n + 1, acc, pos, ex, hs => by
    rw [pDeclsL]
    refine pl_tok hs (fun ht hs' => ?_) (pl_ok hs (Nat.le_refl _) id)
    refine pl_bnd (pShared_p H (.inl rfl) _ _ hs') (fun x q e hl hT hs => ?_)
    refine pl_mono (pDeclsL_p p0 n (acc ++ x) q e hs) (by omega) (fun q' l _ _ k hx hacc => k ?_)
    obtain ⟨q1, h1, h2⟩ := hx
    obtain ⟨q2, h3, h4⟩ := hacc
    exact ⟨q1, h1, h4.append (by omega) h2⟩
theorem pDecls_p (pos : Nat) (ex : List (Nat × Nat)) (hs : St T pos ex) : Pl T E (pos + 1) ex (Ats tx T AL vs pos) (pDecls tx T pos ex) := by
  unfold pDecls
  refine pl_bnd (pShared_p H (.inl rfl) _ _ hs) (fun x q e hl hT hs => ?_)
  refine pl_bnd (pDeclsL_p H pos _ _ _ _ hs) (fun y q2 e2 hl2 hT hs => ?_)
  refine pl_ok hs (by omega) (fun h1 h2 => ?_)
  obtain ⟨q3, h3, h4⟩ := h1 h2
  exact at_mk H (by decide) (by omega) (by omega) (h4.chn.hind (by omega))
theorem pEq_p (pos : Nat) (ex : List (Nat × Nat)) (hs : St T pos ex) : Pl T E (pos + 1) ex (Ats tx T AL vs pos) (pEq tx T pos ex) := by
  unfold pEq
  refine pl_bnd (pExpr_p H _ _ hs) (fun x q e hl hT hs => ?_)
  refine pl_tok hs (fun ht hs => ?_) trivial
  refine pl_bnd (pExpr_p H _ _ hs) (fun y q2 e2 hl2 hT hs => ?_)
  exact pl_ok hs (by omega) (fun h2 h1 => at_mk H (by decide) (by omega) (by omega) (.at h1 (by omega) (.at h2 (by omega) (.nil (by omega)))))
theorem pBind_p (pos : Nat) (ex : List (Nat × Nat)) (hs : St T pos ex) : Pl T E (pos + 1) ex (Ats tx T AL vs pos) (pBind tx T pos ex) := by
  unfold pBind
  refine pl_bnd (pName_p H _ _ hs) (fun x q e hl hT hs => ?_)
  refine pl_tok hs (fun ht hs => ?_) trivial
  refine pl_bnd (pName_p H _ _ hs) (fun y q2 e2 hl2 hT hs => ?_)
  refine pl_tok hs (fun ht hs => ?_) trivial
  refine pl_bnd (pExpr_p H _ _ hs) (fun z q3 e3 hl3 hT hs => ?_)
  exact pl_ok hs (by omega) (fun h3 h2 h1 => at_mk H (by decide) (by omega) (by omega) (.at h2 (by omega) (.at h3 (by omega) (.nil (by omega)))))
theorem pGate_p (pos : Nat) (ex : List (Nat × Nat)) (hs : St T pos ex) : Pl T E (pos + 1) ex (Ats tx T AL vs pos) (pGate tx T pos ex) := by
  unfold pGate
  refine pl_bnd (pName_p H _ _ hs) (fun x q e hl hT hs => ?_)
  refine pl_tok hs (fun ht hs => ?_) trivial
  refine pl_tok hs (fun ht hs => ?_) trivial
  refine pl_bnd (pNames_p H _ _ hs) (fun z q3 e3 hl3 hT hs => ?_)
  refine pl_tok hs (fun ht hs => ?_) trivial
  exact pl_ok hs (by omega) (fun h2 h1 => at_mk H (by decide) (by omega) (by omega) (.at h2 (by omega) (.nil (by omega))))
theorem pGive_p (pos : Nat) (ex : List (Nat × Nat)) (hs : St T pos ex) : Pl T E (pos + 1) ex (Ats tx T AL vs pos) (pGive tx T pos ex) := by
  unfold pGive
  refine pl_tok hs (fun ht hs => ?_) ?_
  · refine pl_bnd (pName_p H _ _ hs) (fun x q e hl hT hs => ?_)
    exact pl_ok hs (by omega) (fun h1 => at_mk H (by decide) (by omega) (by omega) (.at h1 (by omega) (.nil (by omega))))
  · refine pl_bnd (pExpr_p H _ _ hs) (fun x q e hl hT hs => ?_)
    exact pl_ok hs (by omega) (fun h1 => at_mk H (by decide) (by omega) (by omega) (.at h1 (by omega) (.nil (by omega))))
theorem pWindow_p (pos : Nat) (ex : List (Nat × Nat)) (hs : St T pos ex) : Pl T E (pos + 1) ex (Ats tx T AL vs pos) (pWindow tx T pos ex) := by
  unfold pWindow
  refine pl_tok hs (fun ht hs => ?_) trivial
  refine pl_bnd (pNumber_p H _ _ hs) (fun x q e hl hT hs => ?_)
  refine pl_tok hs (fun ht hs => ?_) ?_
  · by_cases c : (tokAt T (q + 1)).kind = 3
    · rw [if_pos c]
      refine pl_bnd (pNumber_p H _ _ hs) (fun z q3 e3 hl3 hT hs => ?_)
      refine pl_tok hs (fun ht hs => ?_) trivial
      exact pl_ok hs (by omega) (fun h2 h1 => at_mk H (by decide) (by omega) (by omega) (.at h1 (by omega) (.at h2 (by omega) (.nil (by omega)))))
    · rw [if_neg c]
      refine pl_tok hs (fun ht hs => ?_) trivial
      exact pl_ok hs (by omega) (fun h1 => at_mk H (by decide) (by omega) (by omega) (.at h1 (by omega) (.nil (by omega))))
  · refine pl_tok hs (fun ht hs => ?_) trivial
    exact pl_ok hs (by omega) (fun h1 => at_mk H (by decide) (by omega) (by omega) (.at h1 (by omega) (.nil (by omega))))
theorem pConds_p (n pos : Nat) (ex : List (Nat × Nat)) (hs : St T pos ex) : Pl T E pos ex (Opt tx T AL vs pos) (pConds tx T n pos ex) := by
  have h0 : Pl T E pos ex (Opt tx T AL vs pos) (.ok (emptyAt (here tx T pos)) pos ex) := pl_ok hs (Nat.le_refl _) ⟨Nat.le_refl _, .inl ⟨_, rfl⟩⟩
  unfold pConds
  split
  · refine pl_tok hs (fun ht hs => ?_) h0
    refine pl_bnd (pRows_p (pEq_p H) _ _ hs) (fun x q e hl hT hs => ?_)
    refine pl_tok hs (fun ht hs => ?_) trivial
    exact pl_ok hs (by omega) (fun h => (h.list H).opt.wide (by omega) (by omega))
  · exact h0
theorem pWins_p (pos : Nat) (ex : List (Nat × Nat)) (hs : St T pos ex) : Pl T E pos ex (Opt tx T AL vs pos) (pWins tx T pos ex) := by
  unfold pWins
  have h0 := hs
  refine pl_tok hs (fun ht hs => ?_) (pl_ok hs (Nat.le_refl _) ⟨Nat.le_refl _, .inl ⟨_, rfl⟩⟩)
  refine pl_bnd (pWindow_p H _ _ h0) (fun x q e hl hT hs => ?_)
  exact pl_ok hs (by omega) (fun h => ((Sq.one h).list H).opt)
/-- Offers, of which there may be none. -/
def Off (tx : ByteArray) (T : List Tk) (AL : Nd → Prop) (vs : List Nd) (p q : Nat) (l : List Nd) : Prop := p ≤ q ∧ (l = [] ∨ ∃ p1 q1, p ≤ p1 ∧ q1 ≤ q ∧ Sq tx T AL vs p1 q1 l)
theorem Off.list {p q : Nat} {l : List Nd} {b : Int} (h : Off tx T AL vs p q l) : Opt tx T AL vs p q (pList (emptyAt b) l) := by
  refine ⟨h.1, ?_⟩
  rcases h.2 with rfl | ⟨p1, q1, h1, h2, h3⟩
  · exact .inl ⟨b, rfl⟩
  · exact .inr ⟨p1, q1, h1, h2, h3.list H⟩
omit H in
theorem Off.snoc {p q p1 q1 r : Nat} {l m : List Nd} (h : Off tx T AL vs p q l) (hp : q ≤ p1) (hq : q1 ≤ r) (hs : Sq tx T AL vs p1 q1 m) : Off tx T AL vs p r (l ++ m) := by
  have h0 := h.1
  have h9 := hs.ends.1
  refine ⟨by omega, ?_⟩
  rcases h.2 with rfl | ⟨p2, q2, h1, h2, h3⟩
  · exact .inr ⟨p1, q1, by omega, hq, hs⟩
  · exact .inr ⟨p2, q1, h1, hq, h3.append (by omega) hs⟩
theorem pOffers_p (p0 : Nat) : ∀ (n : Nat) (acc : List Nd) (pos : Nat) (ex : List (Nat × Nat)), St T pos ex → Pl T E pos ex (fun q l => Off tx T AL vs p0 pos acc → Off tx T AL vs p0 q l) (pOffers tx T n acc pos ex)
  | 0, acc, pos, ex, hs => by rw [pOffers]; trivial
  | n + 1, acc, pos, ex, hs => by
    rw [pOffers]
    refine pl_tok hs (fun ht hs' => ?_) (pl_tok hs (fun ht hs' => ?_) (pl_ok hs (Nat.le_refl _) id))
    · refine pl_bnd (pExpr_p H _ _ hs') (fun x q e hl hT hs => ?_)
      refine pl_mono (pOffers_p p0 n _ q e hs) (by omega) (fun q' l _ _ k hx hacc => k (hacc.snoc (Nat.le_refl _) (Nat.le_refl _) (.one (at_mk H (by decide) (by omega) (by omega) (.at hx (by omega) (.nil (by omega)))))))
    · refine pl_bnd (pShared_p H (.inr rfl) _ _ hs') (fun x q e hl hT hs => ?_)
      refine pl_mono (pOffers_p p0 n _ q e hs) (by omega) (fun q' l _ _ k hx hacc => k ?_)
      obtain ⟨q1, h1, h2⟩ := hx
      exact hacc.snoc (by omega) h1 h2
end
end Go.Proofs.YtjcocblohiglbaaGreatDoor
/- Places: behaviours; each is read at its own place as the same. Conditions: none. -/
namespace Go.Proofs.YtjcocblohiglbaaGreatDoor
open Go.Dp
set_option linter.unusedVariables false
set_option linter.unusedSimpArgs false
section
variable {tx : ByteArray} {T : List Tk} {AL : Nd → Prop} {vs : List Nd} {E : List (Nat × Nat)} (H : Ctx tx T AL vs E)
include H
/-- What a rule of behaviours reads has all but what is read at its own place. -/
abbrev PlK (tx : ByteArray) (T : List Tk) (AL : Nd → Prop) (vs : List Nd) (E : List (Nat × Nat)) (f : Nat → List (Nat × Nat) → Res Nd) : Prop := ∀ pos ex, St T pos ex → Pl T E (pos + 1) ex (AtK tx T AL vs pos) (f pos ex)
abbrev PlA (tx : ByteArray) (T : List Tk) (AL : Nd → Prop) (vs : List Nd) (E : List (Nat × Nat)) (f : Nat → List (Nat × Nat) → Res Nd) : Prop := ∀ pos ex, St T pos ex → Pl T E (pos + 1) ex (fun q x => Ats tx T AL vs pos q x ∧ Bhk x.kind) (f pos ex)
variable {pre beh : Nat → List (Nat × Nat) → Res Nd} (hpre : PlA tx T AL vs E pre) (hbeh : PlA tx T AL vs E beh)
theorem pExit_p {p0 pos : Nat} {ex : List (Nat × Nat)} (hp : p0 < pos) (hs : St T pos ex) : Pl T E pos ex (AtK tx T AL vs p0) (pExit tx T (here tx T p0) pos ex) := by
  unfold pExit
  refine pl_tok hs (fun ht hs => ?_) ?_
  · refine pl_bnd (pRows_p (pGive_p H) _ _ hs) (fun x q e hl hT hs => ?_)
    refine pl_tok hs (fun ht hs => ?_) trivial
    exact pl_ok hs (by omega) (fun h => atK_mk H.so (by decide) (by omega) (by omega) ((h.chn.fore (by omega)).hind (by omega)))
  · have := hs.p
    exact pl_ok hs (Nat.le_refl _) (atK_mk H.so (by decide) (by omega) (by omega) (.nil (by omega)))
theorem pCall_p (pos : Nat) (ex : List (Nat × Nat)) (hs : St T pos ex) : Pl T E (pos + 1) ex (AtK tx T AL vs pos) (pCall tx T (here tx T pos) pos ex) := by
  unfold pCall
  refine pl_bnd (pName_p H _ _ hs) (fun x q e hl hT hs => ?_)
  refine pl_bnd (pGates_p H _ _ hs) (fun y q2 e2 hl2 hT hs => ?_)
  refine pl_tok hs (fun ht hs => ?_) ?_
  · refine pl_bnd (pRows_p (pExpr_p H) _ _ hs) (fun z q3 e3 hl3 hT hs => ?_)
    refine pl_tok hs (fun ht hs => ?_) trivial
    exact pl_ok hs (by omega) (fun h3 h2 h1 => atK_mk H.so (by decide) (by omega) (by omega) (.opt h2 (by omega) (.at (h3.list H) (by omega) (.nil (by omega)))))
  · exact pl_ok hs (by omega) (fun h2 h1 => atK_mk H.so (by decide) (by omega) (by omega) (.opt h2 (by omega) (.emp (.nil (by omega)))))
include hbeh
theorem pPick_p {p0 pos : Nat} {ex : List (Nat × Nat)} (hp : p0 < pos) (hs : St T pos ex) : Pl T E pos ex (AtK tx T AL vs p0) (pPick tx T beh (here tx T p0) pos ex) := by
  unfold pPick
  refine pl_bnd (pRows_p (pGate_p H) _ _ hs) (fun x q e hl hT hs => ?_)
  refine pl_tok hs (fun ht hs => ?_) trivial
  refine pl_bnd (hbeh _ _ hs) (fun y q2 e2 hl2 hT hs => ?_)
  exact pl_ok hs (by omega) (fun h2 h1 => atK_mk H.so (by decide) (by omega) (by omega) (.at (h1.list H) (by omega) (.at h2.1 (by omega) (.nil (by omega)))))
theorem pSome_p {p0 pos : Nat} {ex : List (Nat × Nat)} (hp : p0 < pos) (hs : St T pos ex) : Pl T E pos ex (AtK tx T AL vs p0) (pSome tx T beh (here tx T p0) pos ex) := by
  unfold pSome
  refine pl_bnd (pDecls_p H _ _ hs) (fun x q e hl hT hs => ?_)
  refine pl_tok hs (fun ht hs => ?_) trivial
  refine pl_bnd (hbeh _ _ hs) (fun y q2 e2 hl2 hT hs => ?_)
  exact pl_ok hs (by omega) (fun h2 h1 => atK_mk H.so (by decide) (by omega) (by omega) (.at h1 (by omega) (.at h2.1 (by omega) (.nil (by omega)))))
theorem pChoose_p {pos : Nat} {ex : List (Nat × Nat)} (ht : pos < T.length) (hs : St T pos ex) : Pl T E (pos + 1) ex (AtK tx T AL vs pos) (pChoose tx T beh pos ex) := by
  have hs' := hs.up (pos' := pos + 1) (by omega) (by omega)
  unfold pChoose
  refine pl_bnd (lo1 := pos + 1) (R1 := AtK tx T AL vs pos) ?_ (fun x q e hl hT hs => pl_ok hs hl id)
  unfold pChoice
  split
  · split
    · exact pPick_p H hbeh (by omega) hs'
    · exact pSome_p H hbeh (by omega) hs'
  · exact pSome_p H hbeh (by omega) hs'
theorem pParen_p {pos : Nat} {ex : List (Nat × Nat)} (ht : pos < T.length) (hs : St T pos ex) : Pl T E (pos + 1) ex (AtK tx T AL vs pos) (pParen tx T beh pos ex) := by
  have hs' := hs.up (pos' := pos + 1) (by omega) (by omega)
  unfold pParen
  refine pl_bnd (hbeh _ _ hs') (fun x q e hl hT hs => ?_)
  refine pl_tok hs (fun ht hs => ?_) trivial
  exact pl_ok hs (by omega) (fun h => atK_paren H.so (h.1.k h.2) (by omega) (by omega) (by omega))
theorem pHide_p {pos : Nat} {ex : List (Nat × Nat)} (ht : pos < T.length) (hs : St T pos ex) : Pl T E (pos + 1) ex (AtK tx T AL vs pos) (pHide tx T beh pos ex) := by
  have hs' := hs.up (pos' := pos + 1) (by omega) (by omega)
  unfold pHide
  refine pl_bnd (pNames_p H _ _ hs') (fun x q e hl hT hs => ?_)
  refine pl_tok hs (fun ht hs => ?_) trivial
  refine pl_bnd (hbeh _ _ hs) (fun y q2 e2 hl2 hT hs => ?_)
  exact pl_ok hs (by omega) (fun h2 h1 => atK_mk H.so (by decide) (by omega) (by omega) (.at h1 (by omega) (.at h2.1 (by omega) (.nil (by omega)))))
theorem pLet_p {pos : Nat} {ex : List (Nat × Nat)} (ht : pos < T.length) (hs : St T pos ex) : Pl T E (pos + 1) ex (AtK tx T AL vs pos) (pLet tx T beh pos ex) := by
  have hs' := hs.up (pos' := pos + 1) (by omega) (by omega)
  unfold pLet
  refine pl_bnd (pRows_p (pBind_p H) _ _ hs') (fun x q e hl hT hs => ?_)
  refine pl_tok hs (fun ht hs => ?_) trivial
  refine pl_bnd (hbeh _ _ hs) (fun y q2 e2 hl2 hT hs => ?_)
  exact pl_ok hs (by omega) (fun h2 h1 => atK_mk H.so (by decide) (by omega) (by omega) (.at (h1.list H) (by omega) (.at h2.1 (by omega) (.nil (by omega)))))
omit hbeh
include hpre
theorem pGuard_p {pos : Nat} {ex : List (Nat × Nat)} (ht : pos < T.length) (hs : St T pos ex) : Pl T E (pos + 1) ex (AtK tx T AL vs pos) (pGuard tx T pre pos ex) := by
  have hs' := hs.up (pos' := pos + 1) (by omega) (by omega)
  unfold pGuard
  refine pl_bnd (pRows_p (pEq_p H) _ _ hs') (fun x q e hl hT hs => ?_)
  refine pl_tok hs (fun ht hs => ?_) trivial
  refine pl_tok hs (fun ht hs => ?_) trivial
  refine pl_bnd (hpre _ _ hs) (fun y q2 e2 hl2 hT hs => ?_)
  exact pl_ok hs (by omega) (fun h2 h1 => atK_mk H.so (by decide) (by omega) (by omega) (.at (h1.list H) (by omega) (.at h2.1 (by omega) (.nil (by omega)))))
theorem pWait_p {pos : Nat} {ex : List (Nat × Nat)} (ht : pos < T.length) (hs : St T pos ex) : Pl T E (pos + 1) ex (AtK tx T AL vs pos) (pWait tx T pre pos ex) := by
  have hs' := hs.up (pos' := pos + 1) (by omega) (by omega)
  unfold pWait
  refine pl_kd (by decide) hs' (fun ht hs => ?_) trivial
  refine pl_tok hs (fun ht hs => ?_) trivial
  refine pl_bnd (hpre _ _ hs) (fun y q2 e2 hl2 hT hs => ?_)
  exact pl_ok hs (by omega) (fun h1 => atK_mk H.so (by decide) (by omega) (by omega) (.at h1.1 (by omega) (.nil (by omega))))
theorem pAct_p {pos : Nat} {ex : List (Nat × Nat)} (ht : pos < T.length) (hs : St T pos ex) : Pl T E (pos + 1) ex (AtK tx T AL vs pos) (pAct tx T pre pos ex) := by
  have hs' := hs.up (pos' := pos + 1) (by omega) (by omega)
  unfold pAct
  refine pl_bnd (lo1 := pos + 1) (R1 := AtK tx T AL vs pos) ?_ (fun x q e hl hT hs => pl_ok hs hl id)
  unfold pAction
  refine pl_bnd (pOffers_p H (pos + 1) _ _ _ _ hs') (fun a q e hl hT hs => ?_)
  refine pl_bnd (pConds_p H _ _ _ hs) (fun c q2 e2 hl2 hT hs => ?_)
  refine pl_bnd (pWins_p H _ _ hs) (fun w q3 e3 hl3 hT hs => ?_)
  refine pl_tok hs (fun ht hs => ?_) trivial
  refine pl_bnd (hpre _ _ hs) (fun y q4 e4 hl4 hT hs => ?_)
  refine pl_ok hs (by omega) (fun h4 h3 h2 h1 => ?_)
  have hg : Ats tx T AL vs pos (pos + 1) (gateAt tx T pos) := at_mk H (by decide) (by omega) (by omega) (.nil (by omega))
  have h1 := (h1 ⟨Nat.le_refl _, .inl rfl⟩).list H (b := here tx T (pos + 1))
  exact atK_mk H.so (by decide) (by omega) (by omega) (.at hg (by omega) (.opt h1 (by omega) (.opt h2 (by omega) (.opt h3 (by omega) (.at h4.1 (by omega) (.nil (by omega)))))))
include hbeh
theorem pPre_p : PlK tx T AL vs E (pPre tx T pre beh) := by
  intro pos ex hs
  have hp := hs.p
  unfold pPre
  refine pl_tok hs (fun ht _ => pGuard_p H hpre ht hs) ?_
  refine pl_tok hs (fun ht _ => pParen_p H hbeh ht hs) ?_
  refine pl_tok hs (fun ht _ => pWait_p H hpre ht hs) ?_
  refine pl_tok hs (fun ht _ => pHide_p H hbeh ht hs) ?_
  refine pl_tok hs (fun ht _ => pLet_p H hbeh ht hs) ?_
  refine pl_tok hs (fun ht _ => pChoose_p H hbeh ht hs) ?_
  refine pl_tok hs (fun ht hs' => ?_) ?_
  · unfold pStop
    exact pl_ok hs' (Nat.le_refl _) (atK_mk H.so (by decide) (by omega) (by omega) (.nil (by omega)))
  refine pl_tok hs (fun ht hs' => ?_) ?_
  · unfold pExits
    exact pl_bnd (pExit_p H (by omega) hs') (fun x q e hl hT hs => pl_ok hs hl id)
  refine pl_tok hs (fun ht _ => pAct_p H hpre ht hs) ?_
  refine pl_kd (by decide) hs (fun ht _ => ?_) trivial
  split
  · exact pAct_p H hpre ht hs
  · unfold pCalls
    exact pl_bnd (pCall_p H _ _ hs) (fun x q e hl hT hs => pl_ok hs hl id)
omit hpre hbeh
variable {sub rec : Nat → List (Nat × Nat) → Res Nd} (hsub : PlA tx T AL vs E sub) (hrec : PlA tx T AL vs E rec)
include hsub hrec
theorem pSum_p : PlK tx T AL vs E (pSum tx T sub rec) := by
  intro pos ex hs
  unfold pSum
  refine pl_bnd (hsub _ _ hs) (fun x q e hl hT hs => ?_)
  refine pl_tok hs (fun ht hs => ?_) (pl_ok hs hl (fun h => h.1.k h.2))
  refine pl_bnd (hrec _ _ hs) (fun y q2 e2 hl2 hT hs => ?_)
  exact pl_ok hs (by omega) (fun h2 h1 => atK_mk H.so (by decide) (by omega) (by omega) (.at h1.1 (by omega) (.at h2.1 (by omega) (.nil (by omega)))))
theorem pDis_p : PlK tx T AL vs E (pDis tx T sub rec) := by
  intro pos ex hs
  unfold pDis
  refine pl_bnd (hsub _ _ hs) (fun x q e hl hT hs => ?_)
  refine pl_tok hs (fun ht hs => ?_) (pl_ok hs hl (fun h => h.1.k h.2))
  refine pl_bnd (hrec _ _ hs) (fun y q2 e2 hl2 hT hs => ?_)
  exact pl_ok hs (by omega) (fun h2 h1 => atK_mk H.so (by decide) (by omega) (by omega) (.at h1.1 (by omega) (.at h2.1 (by omega) (.nil (by omega)))))
theorem pParts_p : PlK tx T AL vs E (pParts tx T sub rec) := by
  intro pos ex hs
  unfold pParts
  refine pl_bnd (hsub _ _ hs) (fun x q e hl hT hs => ?_)
  refine pl_tok hs (fun ht hs => ?_) (pl_tok hs (fun ht hs => ?_) (pl_tok hs (fun ht hs => ?_) (pl_ok hs hl (fun h => h.1.k h.2))))
  · refine pl_bnd (hrec _ _ hs) (fun y q2 e2 hl2 hT hs => ?_)
    exact pl_ok hs (by omega) (fun h2 h1 => atK_two H.so (.inl rfl) (by omega) (by omega) ⟨by omega, .inl ⟨_, rfl⟩⟩ (.at h1.1 (by omega) (.at h2.1 (by omega) (.nil (by omega)))))
  · refine pl_bnd (hrec _ _ hs) (fun y q2 e2 hl2 hT hs => ?_)
    exact pl_ok hs (by omega) (fun h2 h1 => atK_two H.so (.inl rfl) (by omega) (by omega) ⟨by omega, .inl ⟨_, rfl⟩⟩ (.at h1.1 (by omega) (.at h2.1 (by omega) (.nil (by omega)))))
  · refine pl_bnd (pNames_p H _ _ hs) (fun z q1 e1 hl1 hT hs => ?_)
    refine pl_tok hs (fun ht hs => ?_) trivial
    refine pl_bnd (hrec _ _ hs) (fun y q2 e2 hl2 hT hs => ?_)
    exact pl_ok hs (by omega) (fun h2 h3 h1 => atK_two H.so (.inl rfl) (by omega) (by omega) (h3.opt.wide (by omega) (by omega)) (.at h1.1 (by omega) (.at h2.1 (by omega) (.nil (by omega)))))
theorem pBeh_p : PlK tx T AL vs E (pBeh tx T sub rec) := by
  intro pos ex hs
  unfold pBeh
  refine pl_bnd (hsub _ _ hs) (fun x q e hl hT hs => ?_)
  refine pl_tok hs (fun ht hs => ?_) (pl_ok hs hl (fun h => h.1.k h.2))
  refine pl_tok hs (fun ht hs => ?_) ?_
  · refine pl_bnd (pDecls_p H _ _ hs) (fun z q1 e1 hl1 hT hs => ?_)
    refine pl_tok hs (fun ht hs => ?_) trivial
    refine pl_bnd (hrec _ _ hs) (fun y q2 e2 hl2 hT hs => ?_)
    exact pl_ok hs (by omega) (fun h2 h3 h1 => atK_two H.so (.inr rfl) (by omega) (by omega) (h3.opt.wide (by omega) (by omega)) (.at h1.1 (by omega) (.at h2.1 (by omega) (.nil (by omega)))))
  · refine pl_bnd (hrec _ _ hs) (fun y q2 e2 hl2 hT hs => ?_)
    exact pl_ok hs (by omega) (fun h2 h1 => atK_two H.so (.inr rfl) (by omega) (by omega) ⟨by omega, .inl ⟨_, rfl⟩⟩ (.at h1.1 (by omega) (.at h2.1 (by omega) (.nil (by omega)))))
omit hsub hrec
/-- Each level, if what it reads is read at its own place as the same. -/
theorem pB_p (ha : ∀ n lv pos ex x q e, lv ≤ 4 → St T pos ex → e <+: E → pos < q → pB tx T n lv pos ex = .ok x q e → AtK tx T AL vs pos q x → AL (fill vs x)) : ∀ (n lv : Nat), lv ≤ 4 → PlA tx T AL vs E (pB tx T n lv)
  | 0, lv, _ => fun pos ex hs => by rw [pB]; trivial
  | n + 1, lv, hv => fun pos ex hs => by
    have hk : Pl T E (pos + 1) ex (AtK tx T AL vs pos) (pB tx T (n + 1) lv pos ex) := by
      match lv, hv with
      | 0, _ => rw [pB]; exact pPre_p H (pB_p ha n 0 (by omega)) (pB_p ha n 4 (by omega)) pos ex hs
      | 1, _ => rw [pB]; exact pSum_p H (pB_p ha n 0 (by omega)) (pB_p ha n 1 (by omega)) pos ex hs
      | 2, _ => rw [pB]; exact pParts_p H (pB_p ha n 1 (by omega)) (pB_p ha n 2 (by omega)) pos ex hs
      | 3, _ => rw [pB]; exact pDis_p H (pB_p ha n 2 (by omega)) (pB_p ha n 3 (by omega)) pos ex hs
      | 4, _ => rw [pB]; exact pBeh_p H (pB_p ha n 3 (by omega)) (pB_p ha n 4 (by omega)) pos ex hs
    cases hr : pB tx T (n + 1) lv pos ex with
    | bad q => trivial
    | ok x q e =>
      rw [hr] at hk
      obtain ⟨h1, h2, h3, h4⟩ := hk
      exact ⟨h1, h2, h3, fun hE => ⟨(h4 hE).own (ha (n + 1) lv pos ex x q e hv hs hE (by omega) hr (h4 hE)), (h4 hE).k⟩⟩
end
end Go.Proofs.YtjcocblohiglbaaGreatDoor
