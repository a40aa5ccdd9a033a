/- Places: expressions; each is read at its own place as the same. Conditions: none. -/
import Derived.Test.YtjcocblohiglbaaGreatDoorZ1
import Derived.Test.YtjcocblohiglbaaGreatDoorZ2
namespace Go.Proofs.YtjcocblohiglbaaGreatDoor
open Go.Dp
set_option linter.unusedVariables false
set_option linter.unusedSimpArgs false
theorem wls_snoc {AL : Nd → Prop} {x : Nd} {e e1 : Int} (h1 : e1 ≤ x.b) (h2 : x.e ≤ e) (h3 : e1 ≤ e) (hx : wl AL x) : ∀ {l : List Nd} {last : Int}, last ≤ e1 → wls AL e1 last l → wls AL e last (l ++ [x])
  | [], last, hl, h => by
    rw [List.nil_append, wls]
    split
    · rw [wls]; trivial
    · exact ⟨by omega, h2, hx, by rw [wls]; trivial⟩
  | y :: l, last, hl, h => by
    rw [List.cons_append, wls]
    rw [wls] at h
    split
    · rename_i c; rw [if_pos c] at h; exact wls_snoc h1 h2 h3 hx hl h
    · rename_i c; rw [if_neg c] at h; exact ⟨h.1, by omega, h.2.2.1, wls_snoc h1 h2 h3 hx h.2.1 h.2.2.2⟩
section
variable {tx : ByteArray} {T : List Tk} {last : Nat} {AL : Nd → Prop} {A F : List (ByteArray × Mx)} {up : Int → Nat → SRes (Nd × Int)}
/-- A node of solving, from token p to ahead of token q. -/
structure Ate (tx : ByteArray) (T : List Tk) (last : Nat) (P : Nd → Prop) (p q : Nat) (x : Nd) : Prop where
  lt : p < q
  le : q ≤ last
  b : x.b = here tx T p
  e : x.e = behind T q
  k : x.kind = 50 ∨ x.kind = 51
  w : P x
theorem tok_b {p : Nat} (hl : last ≤ T.length) (h : p < last) : ((nxt T last p).b : Int) = here tx T p := by
  rw [nxt, if_pos h, tokAt, here, List.getD_eq_getElem?_getD, List.getElem?_eq_getElem (by omega)]
  rfl
theorem tok_e {p : Nat} (hl : last ≤ T.length) (h : p < last) : ((nxt T last p).e : Int) = behind T (p + 1) := by
  rw [nxt, if_pos h, tokAt, behind, Nat.add_sub_cancel, List.getD_eq_getElem?_getD, List.getElem?_eq_getElem (by omega)]
  show _ = (((if p + 1 = 0 then 0 else T[p].e) : Nat) : Int)
  rw [if_neg (by omega)]
  rfl
def UpP (tx : ByteArray) (T : List Tk) (last : Nat) (AL : Nd → Prop) (up : Int → Nat → SRes (Nd × Int)) : Prop := ∀ n pos x q, 0 ≤ n → pos ≤ last → up n pos = .ok x q → Ate tx T last (wl AL) pos q x.1
variable (H : Srt tx T) (hl : last ≤ T.length) (hu : UpP tx T last AL up)
include H hl hu
theorem sParts_p {p0 : Nat} : ∀ (ps : List ByteArray) (l : List Nd) (e : Int) (pos : Nat) (r : List Nd × Int) (q : Nat), p0 < pos → pos ≤ last → e = behind T pos → wls AL (behind T pos) (here tx T p0) l → sParts T last up ps l e pos = .ok r q → pos ≤ q ∧ q ≤ last ∧ r.2 = behind T q ∧ wls AL (behind T q) (here tx T p0) r.1
  | [], l, e, pos, r, q, h0, h1, he, hw, h => by
    rw [sParts] at h
    cases h
    exact ⟨Nat.le_refl _, h1, he, hw⟩
  | s :: ps, l, e, pos, r, q, h0, h1, he, hw, h => by
    rw [sParts] at h
    obtain ⟨x, q0, h2, h⟩ := sbnd_ok h
    have hx := hu 0 pos x q0 (Int.le_refl _) h1 h2
    split at h
    · rename_i c
      have hlt := nxt_part c.1
      have g1 := hx.lt
      have g2 := H.le pos (by omega)
      have g3 := H.behind_mono (p := pos) (q := q0 + 1) (by omega) (by omega)
      have g4 := H.behind_mono (p := q0) (q := q0 + 1) (by omega) (by omega)
      have g5 := H.hb (p := p0) (q := pos) h0 (by omega)
      obtain ⟨a1, a2, a3, a4⟩ := sParts_p ps _ _ (q0 + 1) r q (by omega) (by omega) (tok_e hl hlt) (wls_snoc (by rw [hx.b]; omega) (by rw [hx.e]; omega) (by omega) hx.w (by omega) hw) h
      exact ⟨by omega, a2, a3, a4⟩
    · cases h
theorem sRest_p {p0 pos : Nat} {op : Mx} (hp : 0 ≤ op.prio) {l : List Nd} {y : Nd} {q : Nat} (h0 : p0 < pos) (h1 : pos ≤ last) (hw : wls AL (behind T pos) (here tx T p0) l) (h : sRest T last up op l (here tx T p0) pos = .ok y q) : Ate tx T last (wlK AL) p0 q y := by
  rw [sRest] at h
  obtain ⟨r, q0, h2, h⟩ := sbnd_ok h
  have he : ((tokAt T (pos - 1)).e : Int) = behind T pos := by
    have := tok_e (T := T) (last := last) (p := pos - 1) hl (by omega)
    rw [nxt, if_pos (by omega), show pos - 1 + 1 = pos by omega] at this
    exact this
  obtain ⟨a1, a2, a3, a4⟩ := sParts_p H hl hu _ _ _ _ _ _ h0 h1 he hw h2
  split at h
  · obtain ⟨x, q1, h3, h⟩ := sbnd_ok h
    cases h
    have hx := hu _ q0 x _ (by rw [rightSlot]; split <;> omega) a2 h3
    have g1 := hx.lt
    have g2 := H.le q0 (by omega)
    have g3 := H.behind_mono (p := q0) (q := q) (by omega) (by have := hx.le; omega)
    have g5 := H.hb (p := p0) (q := q) (by omega) (by have := hx.le; omega)
    have g6 := H.hb (p := p0) (q := q0) (by omega) (by omega)
    refine ⟨by omega, hx.le, rfl, hx.e, .inl rfl, ?_⟩
    rw [wlK_eq, hx.e]
    refine ⟨by omega, ?_⟩
    · rw [if_neg (by decide), if_neg (by decide)]
      exact wls_snoc (by rw [hx.b]; omega) (by rw [hx.e]; omega) (by omega) hx.w (by omega) a4
  · cases h
    have g5 := H.hb (p := p0) (q := q) (by omega) (by omega)
    refine ⟨by omega, a2, rfl, a3, .inl rfl, ?_⟩
    rw [wlK_eq, a3]
    refine ⟨by omega, ?_⟩
    · rw [if_neg (by decide), if_neg (by decide)]
      exact a4
theorem sArgs_p {p0 : Nat} : ∀ (n : Nat) (acc : List Nd) (pos : Nat) (l : List Nd) (q : Nat), p0 < pos → pos ≤ last → wls AL (behind T pos) (here tx T p0) acc → sArgs T last up n acc pos = .ok l q → pos < q ∧ q ≤ last ∧ wls AL (behind T q) (here tx T p0) l
  | 0, acc, pos, l, q, h0, h1, hw, h => by rw [sArgs] at h; cases h
  | n + 1, acc, pos, l, q, h0, h1, hw, h => by
    rw [sArgs] at h
    obtain ⟨x, q0, h2, h⟩ := sbnd_ok h
    have hx := hu 0 pos x q0 (Int.le_refl _) h1 h2
    have g1 := hx.lt
    have g2 := H.le pos (by omega)
    have g7 := hx.le
    have g3 := H.behind_mono (p := pos) (q := q0) (by omega) (by omega)
    have g5 := H.hb (p := p0) (q := pos) h0 (by omega)
    have hs := wls_snoc (e := behind T q0) (by rw [hx.b]; omega) (by rw [hx.e]; omega) (by omega) hx.w (by omega) hw
    split at h
    · rename_i c
      have hlt := nxt_isT c
      have g4 := H.behind_mono (p := q0) (q := q0 + 1) (by omega) (by omega)
      obtain ⟨a1, a2, a3⟩ := sArgs_p n _ (q0 + 1) l q (by omega) (by omega) (wls_wide (by omega) (Int.le_refl _) hs) h
      exact ⟨by omega, a2, a3⟩
    · cases h
      exact ⟨g1, g7, hs⟩
theorem sFirst_p {n : Int} {pos : Nat} {x : Nd × Int} {q : Nat} (hF : ∀ s o, look F s = some o → 0 ≤ o.prio) (h : sFirst T last F up n pos = .ok x q) : Ate tx T last (wlK AL) pos q x.1 := by
  have hleaf : ∀ (k : Int) (s : ByteArray), k = 50 → pos < last → Ate tx T last (wlK AL) pos (pos + 1) (.mk k 0 s [] (nxt T last pos).b (nxt T last pos).e) := fun k s hk hlt => by
    subst hk
    rw [tok_b (tx := tx) hl hlt, tok_e hl hlt]
    have g5 := H.hb (p := pos) (q := pos + 1) (by omega) (by omega)
    refine ⟨by omega, hlt, rfl, rfl, .inl rfl, ?_⟩
    rw [wlK_eq]
    refine ⟨by omega, ?_⟩
    · skip
      rw [if_neg (by decide), if_neg (by decide), wls]
      trivial
  rw [sFirst] at h
  split at h
  · rename_i c
    have hlt := nxt_lt (T := T) (last := last) (pos := pos) (by omega)
    cases h
    exact hleaf _ _ rfl hlt
  · split at h
    · rename_i c
      have hlt := nxt_isT c
      obtain ⟨y, q0, h2, h⟩ := sbnd_ok h
      have hy := hu 0 (pos + 1) y q0 (Int.le_refl _) (by omega) h2
      split at h
      · rename_i c2
        have hlt2 := nxt_isT c2
        cases h
        have g1 := hy.lt
        have g3 := H.behind_mono (p := q0) (q := q0 + 1) (by omega) (by omega)
        have g4 := H.here_mono (p := pos) (q := pos + 1) (by omega) (by omega)
        dsimp only
        rw [tok_b (tx := tx) hl hlt, tok_e hl hlt2]
        exact ⟨by omega, by omega, rfl, rfl, hy.k, wlK_wide (wl_k hy.w) (by rw [hy.b]; omega) (by rw [hy.e]; omega)⟩
      · cases h
    · split at h
      · rename_i c
        have hlt := nxt_part c
        split at h
        · rename_i op ho
          split at h
          · cases h
          · obtain ⟨y, q0, h2, h⟩ := sbnd_ok h
            cases h
            rw [tok_b (tx := tx) hl hlt] at h2
            exact sRest_p H hl hu (hF _ _ ho) (by omega) (by omega) (by rw [wls]; trivial) h2
        · split at h
          · rename_i c2
            have hlt2 := nxt_isT c2
            obtain ⟨l, q0, h2, h⟩ := sbnd_ok h
            obtain ⟨a1, a2, a3⟩ := sArgs_p H hl hu (p0 := pos) _ _ _ _ _ (by omega) (by omega) (by rw [wls]; trivial) h2
            split at h
            · rename_i c3
              have hlt3 := nxt_isT c3
              cases h
              have g3 := H.behind_mono (p := q0) (q := q0 + 1) (by omega) (by omega)
              have g5 := H.hb (p := pos) (q := q0 + 1) (by omega) (by omega)
              dsimp only
              rw [tok_b (tx := tx) hl hlt, tok_e hl hlt3]
              refine ⟨by omega, by omega, rfl, rfl, .inl rfl, ?_⟩
              rw [wlK_eq]
              refine ⟨by omega, ?_⟩
              · skip
                rw [if_neg (by decide), if_neg (by decide)]
                exact wls_wide (by omega) (Int.le_refl _) a3
            · cases h
          · cases h
            exact hleaf _ _ rfl hlt
      · cases h
/-- The loop, if what it has read is read at its own place as the same. -/
theorem sUpL_p {n : Int} {pos : Nat} (hA : ∀ s o, look A s = some o → 0 ≤ o.prio) (ha : ∀ x p q, Way T last A F up n pos x p q → Ate tx T last (wlK AL) pos q x → AL x) : ∀ (k : Nat) (x : Nd) (prio : Int) (p : Nat) (r : Nd × Int) (q : Nat), Way T last A F up n pos x prio p → Ate tx T last (wlK AL) pos p x → sUpL T last A up n k x prio p = .ok r q → Ate tx T last (wl AL) pos q r.1
  | 0, x, prio, p, r, q, hw, hx, h => by rw [sUpL] at h; cases h
  | k + 1, x, prio, p, r, q, hw, hx, h => by
    have hal := ha _ _ _ hw hx
    have hx' : Ate tx T last (wl AL) pos p x := ⟨hx.lt, hx.le, hx.b, hx.e, hx.k, wl_of hx.w hal⟩
    have g1 := hx.lt
    have g2 := hx.le
    have g5 := H.hb (p := pos) (q := p) (by omega) (by omega)
    have hone : wls AL (behind T (p + 1)) (here tx T pos) [x] → True := fun _ => trivial
    have h1 : ∀ p', p ≤ p' → p' ≤ last → wls AL (behind T p') (here tx T pos) [x] := fun p' h1 h2 => by
      have g3 := H.behind_mono (p := p) (q := p') h1 (by omega)
      rw [wls, if_neg (fun c => by have := c.1; rw [hx.b, hx.e] at this; omega)]
      exact ⟨by rw [hx.b]; omega, by rw [hx.e]; omega, hx'.w, by rw [wls]; trivial⟩
    rw [sUpL] at h
    split at h
    · rename_i c1
      have hlt := nxt_isT c1
      split at h
      · rename_i c2
        have hlt2 := nxt_lt (T := T) (last := last) (pos := p + 1) (by omega)
        refine sUpL_p hA ha k _ _ (p + 2) r q (.of x prio p hw c1 c2) ?_ h
        have g6 := H.hb (p := pos) (q := p + 1 + 1) (by omega) (by omega)
        rw [tok_e hl hlt2, hx.b]
        refine ⟨by omega, by omega, rfl, rfl, .inr rfl, ?_⟩
        rw [wlK_eq]
        refine ⟨by omega, ?_⟩
        · skip
          rw [if_neg (by decide), if_neg (by decide)]
          exact h1 _ (by omega) (by omega)
      · cases h
    · rename_i c1
      split at h
      · rename_i op ho
        split at h
        · rename_i c2
          have hlt := nxt_part c2.1
          obtain ⟨y, q0, h2, h⟩ := sbnd_ok h
          refine sUpL_p hA ha k _ _ q0 r q (.op x prio p op y q0 hw c1 ho c2 h2) ?_ h
          rw [hx.b] at h2
          exact sRest_p H hl hu (hA _ _ ho) (by omega) (by omega) (h1 _ (by omega) (by omega)) h2
        · cases h; exact hx'
      · cases h; exact hx'
omit hu
theorem sUp_p (hA : ∀ s o, look A s = some o → 0 ≤ o.prio) (hF : ∀ s o, look F s = some o → 0 ≤ o.prio) (ha : ∀ f n pos x p q, 0 ≤ n → Way T last A F (sUp T last A F f) n pos x p q → Ate tx T last (wlK AL) pos q x → AL x) : ∀ f, UpP tx T last AL (sUp T last A F f)
  | 0 => fun n pos x q hn hp h => by rw [sUp] at h; cases h
  | f + 1 => fun n pos x q hn hp h => by
    rw [sUp, sUpTo] at h
    obtain ⟨y, q0, h1, h2⟩ := sbnd_ok h
    exact sUpL_p H hl (sUp_p hA hF ha f) hA (fun x p q hw hx => ha f n pos x p q hn hw hx) _ _ _ _ _ _ (.first y q0 h1) (sFirst_p H hl (sUp_p hA hF ha f) hF h1) h2
end
end Go.Proofs.YtjcocblohiglbaaGreatDoor
/- Places: the whole tree of a behaviour's text. Conditions: none. -/
namespace Go.Proofs.YtjcocblohiglbaaGreatDoor
open Go.Dp
set_option linter.unusedVariables false
set_option linter.unusedSimpArgs false
/-- The text at a node's place. -/
def cutAt (tx : ByteArray) (x : Nd) : ByteArray := tx.extract x.b.toNat x.e.toNat
/-- A node is what its own text is read as. -/
def ALx (ops : List Mx) (tx : ByteArray) (x : Nd) : Prop := cnt x ≤ 60000 → dep x ≤ 400 → ((20 ≤ x.kind ∧ x.kind ≤ 33) → ∃ m, givenP lxP pBehaviour kdP ops (cutAt tx x) = ⟨m, 0, 0⟩ ∧ same x m = true) ∧ ((x.kind = 50 ∨ x.kind = 51) → ∃ m, givenP lxP pExpr kdP ops (cutAt tx x) = ⟨m, 0, 0⟩ ∧ same x m = true)
theorem piece_lx {tx : ByteArray} (hs : tx.size ≤ 20000) {ts : List Lex.Tok} {cs : List (Nat × Nat)} (h : Lex.cutL tx.data.toList = .done ts cs) {p q : Nat} (hpq : p < q) (hq : q ≤ ts.length) :
    ∃ T', lxP (tx.extract (here tx (ts.map toTk) p) (behind (ts.map toTk) q)) = (T', 0, 0) ∧ T'.length = q - p ∧ Win (ts.map toTk) T' (-(p : Int)) p q := by
  have hi := List.getElem?_eq_getElem (show p < ts.length by omega)
  have hj := List.getElem?_eq_getElem (show q - 1 < ts.length by omega)
  obtain ⟨us, cs', h1, h2, h3⟩ := Lex.cut_piece h hi hj (by omega)
  have e1 : here tx (ts.map toTk) p = ts[p].b := by rw [here, List.getElem?_map, hi]; rfl
  have e2 : behind (ts.map toTk) q = ts[q - 1].e := by
    rw [behind, List.getElem?_map, hj]
    show (if q = 0 then 0 else ts[q - 1].e) = _
    rw [if_neg (by omega)]
  rw [show q - 1 - p + 1 = q - p by omega] at h3
  obtain ⟨g1, g2⟩ := piece_win h3 (by omega)
  rw [show p + (q - p) = q by omega] at g2
  refine ⟨us.map toTk, ?_, g1, g2⟩
  rw [e1, e2]
  refine lx_done ?_ (cs := cs') ?_
  · rw [ByteArray.size_extract]; omega
  · rw [ByteArray.data_extract, Array.toList_extract, List.extract_eq_take_drop]
    exact h2
mutual
theorem fill_pre {v w : List Nd} : ∀ (x : Nd), Pend v.length x → fill (v ++ w) x = fill v x
  | .mk k n s l b e, hp => by
    rw [Pend] at hp
    rw [fill, fill]
    split
    · rename_i hk
      have := hp.1 hk
      rw [List.getD_eq_getElem?_getD, List.getD_eq_getElem?_getD, List.getElem?_append_left (by omega)]
    · rw [fills_pre l hp.2]
theorem fills_pre {v w : List Nd} : ∀ (l : List Nd), Pends v.length l → fills (v ++ w) l = fills v l
  | [], _ => by rw [fills, fills]
  | x :: l, hp => by
    rw [Pends] at hp
    rw [fills, fills, fill_pre x hp.1, fills_pre l hp.2]
end
theorem slvs_at {T : List Tk} {A F : List (ByteArray × Mx)} {e : List (Nat × Nat)} {vs : List Nd} (h : Slvs T A F e vs) : ∀ (i p q : Nat), e[i]? = some (p, q) → ∃ z, sSolve T A F (p, q) = .ok (vs.getD i default) z := by
  induction h with
  | nil => intro i p q h; simp at h
  | cons x l v vs z h hs ih =>
    intro i p q hi
    cases i with
    | zero =>
      simp only [List.getElem?_cons_zero, Option.some.injEq] at hi
      subst hi
      exact ⟨z, h⟩
    | succ i => exact ih i p q (by simpa using hi)
theorem prio_of {ops : List Mx} (hap : apartM kdP ops = true) (left : Bool) (s : ByteArray) (o : Mx) (h : look (tabM left ops) s = some o) : 0 ≤ o.prio := by
  obtain ⟨-, -, hm⟩ := look_some h
  obtain ⟨m, hm1, hm2⟩ := List.mem_map.1 hm
  have hm3 := (List.mem_filter.1 hm1).1
  have : m = o := by injection hm2
  subst this
  have h2 := hap
  unfold apartM at h2
  rw [Bool.and_eq_true] at h2
  have h3 := ((apt_of h2.2).1 m hm3).1
  unfold rightM at h3
  simp only [Bool.and_eq_true, decide_eq_true_eq] at h3
  omega
/-- PLACES: what the law asks of the tree. -/
theorem places_ok {ops : List Mx} {tx : ByteArray} (hs : tx.size ≤ 10000) {n : Nd} {at_ : Int} (h : givenP lxP pBehaviour kdP ops tx = ⟨n, at_, 0⟩) : wl (ALx ops tx) n ∧ 0 ≤ n.b ∧ n.e ≤ tx.size ∧ cnt n ≤ 60000 ∧ dep n ≤ 400 := by
  obtain ⟨hap, he, -, n0, q, ex, es, hr, hq, hsl, rfl, hc, hd⟩ := given_ok h
  obtain ⟨ts, cs, hcut, hlx⟩ := lx_ok (by omega) he
  have hpc := fun p q hpq hq => piece_lx (by omega) hcut (p := p) (q := q) hpq hq
  have hso := srt_of hcut
  have hsz : here tx (ts.map toTk) (ts.map toTk).length = tx.size := by rw [here, List.getElem?_eq_none (Nat.le_refl _)]
  rw [hlx] at hr hq hsl
  dsimp only at hr hq hsl
  have hlen : ts.length = (ts.map toTk).length := (List.length_map ..).symm
  rw [hlen] at hpc
  clear hlen hlx hcut
  generalize ts.map toTk = T at *
  unfold pBehaviour at hr
  have hinv := pB_inv tx T (8 * T.length + 8) 4 (Nat.le_refl _) 0 [] (fun x hx => by cases hx)
  rw [hr] at hinv
  obtain ⟨hX, -, hPd, -⟩ := hinv
  have hA := prio_of hap true
  have hF := prio_of hap false
  have hcx : ∀ {p q : Nat} {x : Nd}, x.b = here tx T p → x.e = behind T q → cutAt tx x = tx.extract (here tx T p) (behind T q) := fun {p q x} h1 h2 => by
    rw [cutAt, h1, h2, Int.toNat_natCast, Int.toNat_natCast]
  have hup : ∀ last, last ≤ T.length → ∀ f, UpP tx T last (ALx ops tx) (sUp T last (tabM true ops) (tabM false ops) f) := fun last hl => sUp_p hso hl hA hF (fun f n pos x p q hn hw hx hc hd => by
    refine ⟨fun hk => by have := hx.k; omega, fun _ => ?_⟩
    obtain ⟨T', g1, g2, g3⟩ := hpc pos q hx.lt (by have := hx.le; omega)
    obtain ⟨m, h1, h2⟩ := way_solve g3 hx.le g2 hn hw
    have hcd := same_cnt _ _ h2
    rw [hcx hx.b hx.e]
    exact ⟨m, expr_piece g1 h1 hap (by omega) (by omega), h2⟩)
  have H : Ctx tx T (ALx ops tx) es ex := by
    refine ⟨hso, fun x hx hc hd => ⟨fun h => absurd (.inl h) hx, fun h => absurd (.inr h) hx⟩, fun i p q hi => ?_⟩
    obtain ⟨z, hz⟩ := slvs_at hsl i p q hi
    have hxi := hX (p, q) (List.mem_of_getElem? hi)
    rw [sSolve] at hz
    dsimp only at hz hxi
    obtain ⟨y, q0, h1, h2⟩ := sbnd_ok hz
    split at h2
    · rename_i hq0
      injection h2 with h2 h3
      subst hq0
      have := hup q0 hxi.2 _ 0 p y q0 (Int.le_refl _) hxi.1 h1
      rw [← h2]
      exact ⟨this.b, this.e, this.w⟩
    · cases h2
  have hB := pB_p H (fun n lv pos ex1 x q1 e1 hlv hst hE hlt hp hk hc hd => by
    obtain ⟨r, hr⟩ := hE
    subst hr
    obtain ⟨v1, v2, rfl, hs1, -⟩ := Slvs.split hsl
    have hi := pB_inv tx T n lv hlv pos ex1 hst.x
    rw [hp] at hi
    have hfp : fill (v1 ++ v2) x = fill v1 x := fill_pre x (by rw [hs1.len]; exact hi.2.2.1)
    have hkk : (fill (v1 ++ v2) x).kind = x.kind := by rw [fill_mk hk.k.1]; rfl
    have hb : (fill (v1 ++ v2) x).b = here tx T pos := by rw [fill_mk hk.k.1]; exact hk.b
    have he : (fill (v1 ++ v2) x).e = behind T q1 := by rw [fill_mk hk.k.1]; exact hk.e
    rw [hcx hb he]
    refine ⟨fun _ => ?_, fun h => by have := hk.k; unfold Bhk at this; omega⟩
    obtain ⟨T', g1, g2, g3⟩ := hpc pos q1 hk.lt hk.le
    rw [hfp] at hc hd ⊢
    exact beh_piece (m := n) (lv := lv) g1 g3 g2 hlv hst.p hst.e hst.x hp hs1 hap hc hd) (8 * T.length + 8) 4 (Nat.le_refl _) 0 [] ⟨Nat.zero_le _, Nat.zero_le _, fun x hx => by cases hx⟩
  rw [hr] at hB
  obtain ⟨h1, h2, h3, h4⟩ := hB
  obtain ⟨hat, hk⟩ := h4 (List.prefix_refl _)
  have g1 := hso.bh hat.le (Nat.le_refl _)
  exact ⟨hat.w, by rw [hat.fb]; omega, by rw [hat.fe]; omega, hc, hd⟩
end Go.Proofs.YtjcocblohiglbaaGreatDoor
