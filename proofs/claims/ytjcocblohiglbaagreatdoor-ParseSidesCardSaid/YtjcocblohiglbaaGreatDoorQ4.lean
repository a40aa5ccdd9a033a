/- Chains of one operation: what is read of them, by the plain reader. Conditions: none. -/
import Derived.Test.YtjcocblohiglbaaGreatDoorQ1
import Derived.Test.YtjcocblohiglbaaGreatDoorP1
namespace Go.Proofs.YtjcocblohiglbaaGreatDoor
open Go.Dp
set_option linter.unusedVariables false
set_option linter.unusedSimpArgs false
def oneS (prio side : Int) : Mx := ⟨[⟨#[43]⟩], true, true, prio, side⟩
def twoS (lower : Int) : Mx := ⟨[⟨#[35]⟩], true, true, lower, 0⟩
def opsS (prio side lower : Int) : List Mx := [oneS prio side, twoS lower]
def plusL : Nat → List UInt8
  | 0 => []
  | m + 1 => 32 :: 43 :: 32 :: 97 :: plusL m
def textS (m : Nat) : ByteArray := ⟨(97 :: plusL m).toArray⟩
def ndA : Nd := .mk 50 0 ⟨#[97]⟩ [] 0 0
def wantS (side : Int) : Nat → Nd
  | 0 => ndA
  | m + 1 => if side = 2 then .mk 50 0 ⟨#[95, 43, 95]⟩ [ndA, wantS side m] 0 0 else .mk 50 0 ⟨#[95, 43, 95]⟩ [wantS side m, ndA] 0 0
def twice (m : Nat) : ByteArray := (textS m ++ ⟨#[32, 35, 32]⟩) ++ textS m
/-! #### Tokens of a chain -/
def tsS : Nat → List Lex.Tok
  | 0 => [⟨1, 0, [97], 0, 1⟩]
  | m + 1 => ⟨1, 0, [97], 0, 1⟩ :: ⟨4, 0, [43], 2, 3⟩ :: (tsS m).map (Lex.Tok.by 4)
theorem plus_len : ∀ m, (plusL m).length = 4 * m
  | 0 => rfl
  | m + 1 => by simp only [plusL, List.length_cons, plus_len m]; omega
theorem cutA : Lex.cutL [97] = .done [⟨1, 0, [97], 0, 1⟩] [] := by decide +kernel
theorem cutP : Lex.cutL [43] = .done [⟨4, 0, [43], 0, 1⟩] [] := by decide +kernel
theorem cutH : Lex.cutL [35] = .done [⟨4, 0, [35], 0, 1⟩] [] := by decide +kernel
theorem by_by (a b : Nat) (l : List Lex.Tok) : (l.map (Lex.Tok.by a)).map (Lex.Tok.by b) = l.map (Lex.Tok.by (a + b)) := by
  rw [List.map_map]
  congr 1
  funext t
  simp only [Function.comp, Lex.Tok.by]
  congr 1 <;> omega
theorem cut_chain : ∀ m, ∃ cs, Lex.cutL (97 :: plusL m) = .done (tsS m) cs
  | 0 => ⟨_, cutA⟩
  | m + 1 => by
    obtain ⟨cs, h⟩ := cut_chain m
    have h1 := Lex.cut_both (x := 32) (by decide) cutP h
    have h2 := Lex.cut_both (x := 32) (by decide) cutA h1
    refine ⟨_, h2.trans (congrArg (fun ts => Lex.Res.done ts _) ?_)⟩
    rw [List.map_append, by_by]
    rfl
theorem cut_twice (m : Nat) : ∃ cs, Lex.cutL ((97 :: plusL m) ++ 32 :: ([35] ++ 32 :: (97 :: plusL m))) = .done (tsS m ++ (⟨4, 0, [35], 4 * m + 2, 4 * m + 3⟩ :: (tsS m).map (Lex.Tok.by (4 * m + 4)))) cs := by
  obtain ⟨cs, h⟩ := cut_chain m
  have h1 := Lex.cut_both (x := 32) (by decide) cutH h
  have h2 := Lex.cut_both (x := 32) (by decide) h h1
  refine ⟨_, h2.trans (congrArg (fun ts => Lex.Res.done ts _) ?_)⟩
  have hl : (97 :: plusL m).length = 4 * m + 1 := by rw [List.length_cons, plus_len]
  rw [List.map_append, by_by, hl]
  congr 1
  show [Lex.Tok.by (4 * m + 1 + 1) _] ++ _ = _ :: _
  simp only [Lex.Tok.by, List.length_cons, List.length_nil, List.cons_append, List.nil_append]
  rw [show 0 + 1 + 1 + (4 * m + 1 + 1) = 4 * m + 4 by omega, show 0 + (4 * m + 1 + 1) = 4 * m + 2 by omega, show 1 + (4 * m + 1 + 1) = 4 * m + 3 by omega]
theorem text_size (m : Nat) : (textS m).size = 4 * m + 1 := by
  show ((97 :: plusL m).toArray).size = _
  rw [List.size_toArray, List.length_cons, plus_len]
theorem twice_list (m : Nat) : (twice m).data.toList = (97 :: plusL m) ++ 32 :: ([35] ++ 32 :: (97 :: plusL m)) := by simp [twice, textS, ByteArray.data_append]
theorem lx_chain (m : Nat) (hm : m ≤ 60) : lxP (textS m) = ((tsS m).map toTk, 0, 0) := by
  obtain ⟨cs, h⟩ := cut_chain m
  exact lx_done (by rw [text_size]; omega) (by show Lex.cutL ((97 :: plusL m).toArray).toList = _; rw [List.toList_toArray]; exact h)
theorem lx_twice (m : Nat) (hm : m ≤ 60) : lxP (twice m) = ((tsS m).map toTk ++ (⟨4, 0, ⟨#[35]⟩, 4 * m + 2, 4 * m + 3⟩ :: ((tsS m).map toTk).map (shT (4 * m + 4))), 0, 0) := by
  obtain ⟨cs, h⟩ := cut_twice m
  rw [← twice_list] at h
  have hz : (twice m).size ≤ 20000 := by
    rw [twice, ByteArray.size_append, ByteArray.size_append, text_size]
    show 4 * m + 1 + 3 + (4 * m + 1) ≤ 20000
    omega
  rw [lx_done hz h, List.map_append, List.map_cons, List.map_map, List.map_map]
  rfl
def IsA (t : Tk) : Prop := t.kind = 1 ∧ t.s = ⟨#[97]⟩
def IsP (c : ByteArray) (t : Tk) : Prop := t.kind = 4 ∧ t.s = c
/-- A chain's tokens from p on. -/
def Chain (T : List Tk) (p m : Nat) : Prop := (∀ i, i ≤ m → IsA (tokAt T (p + 2 * i))) ∧ ∀ i, i < m → IsP ⟨#[43]⟩ (tokAt T (p + 2 * i + 1))
theorem chain_len : ∀ m, ((tsS m).map toTk).length = 2 * m + 1
  | 0 => rfl
  | m + 1 => by
    have := chain_len m
    simp only [List.length_map] at this
    simp only [tsS, List.map_cons, List.length_cons, List.length_map, this]
    omega
theorem chain_at : ∀ m, Chain ((tsS m).map toTk) 0 m
  | 0 => ⟨fun i hi => by
      obtain rfl : i = 0 := Nat.le_zero.1 hi
      exact ⟨rfl, rfl⟩, fun i hi => absurd hi (by omega)⟩
  | m + 1 => by
    obtain ⟨h1, h2⟩ := chain_at m
    have hl := chain_len m
    have e : (tsS (m + 1)).map toTk = toTk ⟨1, 0, [97], 0, 1⟩ :: toTk ⟨4, 0, [43], 2, 3⟩ :: ((tsS m).map toTk).map (shT 4) := by
      simp only [tsS, List.map_cons, List.map_map]
      rfl
    rw [e]
    refine ⟨fun i hi => ?_, fun i hi => ?_⟩
    · cases i with
      | zero => exact ⟨rfl, rfl⟩
      | succ i =>
        rw [show 0 + 2 * (i + 1) = (0 + 2 * i) + 1 + 1 by omega, tokAt_cons, tokAt_cons, tokAt_map (by omega)]
        exact h1 i (by omega)
    · cases i with
      | zero => exact ⟨rfl, rfl⟩
      | succ i =>
        rw [show 0 + 2 * (i + 1) + 1 = (0 + 2 * i + 1) + 1 + 1 by omega, tokAt_cons, tokAt_cons, tokAt_map (by omega)]
        exact h2 i (by omega)
/-! #### Solving a chain -/
section
variable {T : List Tk} {last : Nat} {prio side lower : Int}
theorem isA_not {t : Tk} (h : IsA t) (s : ByteArray) : isT t s = false := by simp [isT, h.1]
theorem isA_part {t : Tk} (h : IsA t) : partT t = true := by simp [partT, h.1]
theorem isP_not {c : ByteArray} {t : Tk} (h : IsP c t) (s : ByteArray) : isT t s = false := by simp [isT, h.1]
theorem isP_part {c : ByteArray} {t : Tk} (h : IsP c t) : partT t = true := by simp [partT, h.1]
abbrev tA (prio side lower : Int) : List (ByteArray × Mx) := [(⟨#[43]⟩, oneS prio side), (⟨#[35]⟩, twoS lower)]
theorem look_plus : look (tA prio side lower) ⟨#[43]⟩ = some (oneS prio side) := by simp [look, List.find?_cons]
theorem look_hash : look (tA prio side lower) ⟨#[35]⟩ = some (twoS lower) := by simp [look, List.find?_cons]
theorem first_a {up : Int → Nat → SRes (Nd × Int)} {n : Int} {p : Nat} (h : IsA (nxt T last p)) (h2 : isT (nxt T last (p + 1)) ⟨#[40]⟩ = false) : ∃ x, sFirst T last [] up n p = .ok (x, 10) (p + 1) ∧ same x ndA = true := by
  refine ⟨.mk 50 0 (nxt T last p).s [] (nxt T last p).b (nxt T last p).e, ?_, ?_⟩
  · rw [sFirst, if_neg (by rw [h.1]; decide), isA_not h, if_neg (by simp), if_pos (isA_part h)]
    have hlk : look ([] : List (ByteArray × Mx)) (nxt T last p).s = none := rfl
    rw [hlk]
    dsimp only
    rw [h2, if_neg (by simp)]
  · rw [h.2]
    rfl
theorem mix_plus (prio side : Int) : mixName (oneS prio side) = ⟨#[95, 43, 95]⟩ := by
  have : mixName (oneS 0 0) = ⟨#[95, 43, 95]⟩ := by decide +kernel
  exact this
theorem mix_hash (lower : Int) : mixName (twoS lower) = ⟨#[95, 35, 95]⟩ := by
  have : mixName (twoS 0) = ⟨#[95, 35, 95]⟩ := by decide +kernel
  exact this
/-- What may follow a chain. -/
def After (prio lower n : Int) (t : Tk) : Prop := Dull t ∨ IsP ⟨#[43]⟩ t ∧ prio < n ∨ IsP ⟨#[35]⟩ t ∧ lower < n
theorem After.nolp {n : Int} {t : Tk} (h : After prio lower n t) : isT t ⟨#[40]⟩ = false := by
  rcases h with h | ⟨h, -⟩ | ⟨h, -⟩
  · exact h.no (by decide)
  · exact isP_not h _
  · exact isP_not h _
theorem stops {up : Int → Nat → SRes (Nd × Int)} {n : Int} {k : Nat} {x : Nd} {pr : Int} {p : Nat} (h : After prio lower n (nxt T last p)) : sUpL T last (tA prio side lower) up n (k + 1) x pr p = .ok (x, pr) p := by
  rcases h with h | ⟨h, hp⟩ | ⟨h, hp⟩
  · exact sUpL_stop h
  · rw [sUpL, isP_not h, if_neg (by simp), h.2, look_plus]
    dsimp only
    rw [if_neg (fun hh => hh.2.1 hp)]
  · rw [sUpL, isP_not h, if_neg (by simp), h.2, look_hash]
    dsimp only
    rw [if_neg (fun hh => hh.2.1 hp)]
theorem rest_plus {f : Nat} {x : Nd} {a0 : Int} {p : Nat} : sRest T last (sUp T last (tA prio side lower) [] f) (oneS prio side) [x] a0 p = (sUp T last (tA prio side lower) [] f (rightSlot (oneS prio side)) p).bnd fun y q => .ok (.mk 50 0 ⟨#[95, 43, 95]⟩ [x, y.1] a0 y.1.e) q := by
  rw [sRest, mix_plus]
  rfl
theorem rest_hash {f : Nat} {x : Nd} {a0 : Int} {p : Nat} : sRest T last (sUp T last (tA prio side lower) [] f) (twoS lower) [x] a0 p = (sUp T last (tA prio side lower) [] f (lower + 1) p).bnd fun y q => .ok (.mk 50 0 ⟨#[95, 35, 95]⟩ [x, y.1] a0 y.1.e) q := by
  rw [sRest, mix_hash]
  rfl
/-- One name, behind which nothing goes on. -/
theorem atom_s {f : Nat} {n : Int} {p : Nat} (h : IsA (nxt T last p)) (h2 : After prio lower n (nxt T last (p + 1))) : ∃ x, sUp T last (tA prio side lower) [] (f + 1) n p = .ok (x, 10) (p + 1) ∧ same x ndA = true := by
  obtain ⟨x, hx, hs⟩ := first_a (up := sUp T last (tA prio side lower) [] f) (n := n) h h2.nolp
  refine ⟨x, ?_, hs⟩
  rw [sUp, sUpTo, hx]
  exact stops h2
/-- A step of a loop over '+'. -/
theorem plus_step {f : Nat} {n : Int} {k : Nat} {x y : Nd} {pr py : Int} {p q : Nat} (h : IsP ⟨#[43]⟩ (nxt T last p)) (hn : n ≤ prio) (hpr : prio < pr ∨ prio = pr ∧ side = 1) (hy : sUp T last (tA prio side lower) [] f (rightSlot (oneS prio side)) (p + 1) = .ok (y, py) q) :
    sUpL T last (tA prio side lower) (sUp T last (tA prio side lower) [] f) n (k + 1) x pr p = sUpL T last (tA prio side lower) (sUp T last (tA prio side lower) [] f) n k (.mk 50 0 ⟨#[95, 43, 95]⟩ [x, y] x.b y.e) prio q := by
  rw [sUpL, isP_not h, if_neg (by simp), h.2, look_plus]
  dsimp only
  rw [if_pos ⟨isP_part h, show ¬ prio < n by omega, show ¬ pr < prio by omega, fun hh => by
    have h1 : pr = prio := hh.1
    have h2 : ¬ side = 1 := hh.2
    omega⟩, rest_plus, hy]
  rfl
theorem same_plus {x y a b : Nd} (h1 : same x a = true) (h2 : same y b = true) {p q p' q' : Int} : same (.mk 50 0 ⟨#[95, 43, 95]⟩ [x, y] p q) (.mk 50 0 ⟨#[95, 43, 95]⟩ [a, b] p' q') = true := by
  refine same_mk ?_
  rw [sames, sames, h1, h2]
  rfl
/-- A chain from the left, from behind its first name on. -/
theorem left_s (hs1 : side = 1) {f : Nat} {n : Int} (hn : n ≤ prio) : ∀ (m j k : Nat) (x : Nd) (pr : Int) (p : Nat), (∀ i, i < m → IsP ⟨#[43]⟩ (nxt T last (p + 2 * i)) ∧ IsA (nxt T last (p + 2 * i + 1))) → (0 < m → After prio lower (prio + 1) (nxt T last (p + 2 * m))) → (pr = 10 ∨ pr = prio) → prio < 10 → same x (wantS side j) = true →
    ∃ x' pr', sUpL T last (tA prio side lower) (sUp T last (tA prio side lower) [] (f + 1)) n (k + m) x pr p = sUpL T last (tA prio side lower) (sUp T last (tA prio side lower) [] (f + 1)) n k x' pr' (p + 2 * m) ∧ same x' (wantS side (j + m)) = true ∧ (pr' = 10 ∨ pr' = prio)
  | 0, j, k, x, pr, p, _, _, hp, _, hx => ⟨x, pr, rfl, hx, hp⟩
  | m + 1, j, k, x, pr, p, hc, ha, hp, h10, hx => by
    have h0 : IsP ⟨#[43]⟩ (nxt T last p) ∧ IsA (nxt T last (p + 1)) := hc 0 (by omega)
    have hnext : After prio lower (prio + 1) (nxt T last (p + 1 + 1)) := by
      cases m with
      | zero => exact ha (by omega)
      | succ m => exact .inr (.inl ⟨(hc 1 (by omega)).1, by omega⟩)
    have hrs : rightSlot (oneS prio side) = prio + 1 := by
      show (if side = 2 ∨ true = false then prio else prio + 1) = _
      rw [if_neg (by subst hs1; decide)]
    obtain ⟨y, hy, hys⟩ := atom_s (side := side) (f := f) (n := prio + 1) h0.2 hnext
    have hst := plus_step (T := T) (last := last) (prio := prio) (side := side) (lower := lower) (n := n) (k := k + m) (x := x) (pr := pr) h0.1 hn (by
      rcases hp with h | h
      · exact .inl (by omega)
      · exact .inr ⟨h.symm, hs1⟩) (by rw [hrs]; exact hy)
    have hw : same (.mk 50 0 ⟨#[95, 43, 95]⟩ [x, y] x.b y.e) (wantS side (j + 1)) = true := by
      rw [wantS, if_neg (by omega)]
      exact same_plus hx hys
    obtain ⟨x', pr', e1, e2, e3⟩ := left_s hs1 (f := f) hn m (j + 1) k _ prio (p + 1 + 1) (fun i hi => by
      have := hc (i + 1) (by omega)
      rw [show p + 2 * (i + 1) = p + 1 + 1 + 2 * i by omega] at this
      exact this) (fun hm => by have := ha (by omega); rw [show p + 2 * (m + 1) = p + 1 + 1 + 2 * m by omega] at this; exact this) (.inr rfl) h10 hw
    refine ⟨x', pr', ?_, by rw [show j + (m + 1) = j + 1 + m by omega]; exact e2, e3⟩
    rw [← Nat.add_assoc, hst, e1, show p + 2 * (m + 1) = p + 1 + 1 + 2 * m by omega]
/-- A chain. -/
theorem chain_s (hside : side = 1 ∨ side = 2 ∨ side = 0) (h10 : prio < 10) : ∀ (m f : Nat) (n : Int) (p : Nat), (side = 0 → m ≤ 1) → n ≤ prio → m < f → m ≤ last → (∀ i, i ≤ m → IsA (nxt T last (p + 2 * i))) → (∀ i, i < m → IsP ⟨#[43]⟩ (nxt T last (p + 2 * i + 1))) → After prio lower prio (nxt T last (p + 2 * m + 1)) →
    ∃ x pr k, sUp T last (tA prio side lower) [] f n p = sUpL T last (tA prio side lower) (sUp T last (tA prio side lower) [] (f - 1)) n (k + 1) x pr (p + 2 * m + 1) ∧ last ≤ k + m ∧ same x (wantS side m) = true ∧ (pr = 10 ∨ pr = prio)
  | m, 0, n, p, _, _, hf, _, _, _, _ => absurd hf (by omega)
  | 0, f + 1, n, p, _, hn, hf, hl, hA, hP, hz => by
    obtain ⟨x, hx, hs⟩ := first_a (up := sUp T last (tA prio side lower) [] f) (n := n) (hA 0 (Nat.le_refl _)) hz.nolp
    refine ⟨x, 10, last, ?_, by omega, hs, .inl rfl⟩
    rw [sUp, sUpTo, show p + 2 * 0 = p from rfl] at *
    rw [hx]
    rfl
  | m + 1, f + 1, n, p, h0, hn, hf, hl, hA, hP, hz => by
    have hp0 := hP 0 (by omega)
    rw [show p + 2 * 0 + 1 = p + 1 from rfl] at hp0
    obtain ⟨x, hx, hs⟩ := first_a (up := sUp T last (tA prio side lower) [] f) (n := n) (hA 0 (by omega)) (isP_not hp0 _)
    rw [show p + 2 * 0 = p from rfl] at hx
    have hstart : sUp T last (tA prio side lower) [] (f + 1) n p = sUpL T last (tA prio side lower) (sUp T last (tA prio side lower) [] f) n (last + 1) x 10 (p + 1) := by
      rw [sUp, sUpTo, hx]
      rfl
    obtain ⟨f, rfl⟩ : ∃ g, f = g + 1 := ⟨f - 1, by omega⟩
    by_cases h1 : side = 1
    · obtain ⟨x', pr', e1, e2, e3⟩ := left_s (T := T) (last := last) (lower := lower) h1 (f := f) hn (m + 1) 0 (last - m) x 10 (p + 1) (fun i hi => by
        have a1 := hP i hi
        have a2 := hA (i + 1) (by omega)
        rw [show p + 2 * i + 1 = p + 1 + 2 * i by omega] at a1
        rw [show p + 2 * (i + 1) = p + 1 + 2 * i + 1 by omega] at a2
        exact ⟨a1, a2⟩) (fun _ => by
        rw [show p + 1 + 2 * (m + 1) = p + 2 * (m + 1) + 1 by omega]
        rcases hz with h | ⟨h, hh⟩ | ⟨h, hh⟩
        · exact .inl h
        · exact .inr (.inl ⟨h, by omega⟩)
        · exact .inr (.inr ⟨h, by omega⟩)) (.inl rfl) h10 hs
      refine ⟨x', pr', last - m - 1, ?_, by omega, by rw [Nat.zero_add] at e2; exact e2, e3⟩
      rw [hstart, show last + 1 = last - m + (m + 1) by omega, e1, show last - m - 1 + 1 = last - m by omega, show p + 1 + 2 * (m + 1) = p + 2 * (m + 1) + 1 by omega]
      rfl
    · have hy : ∃ y py, sUp T last (tA prio side lower) [] (f + 1) (rightSlot (oneS prio side)) (p + 1 + 1) = .ok (y, py) (p + 2 * (m + 1) + 1) ∧ same y (wantS side m) = true := by
        by_cases h2 : side = 2
        · have hrs : rightSlot (oneS prio side) = prio := by
            show (if side = 2 ∨ true = false then prio else prio + 1) = _
            rw [if_pos (.inl h2)]
          rw [hrs]
          obtain ⟨y, py, k, e1, e2, e3, e4⟩ := chain_s hside h10 m (f + 1) prio (p + 1 + 1) (fun h => by omega) (Int.le_refl _) (by omega) (by omega) (fun i hi => by
            have := hA (i + 1) (by omega)
            rw [show p + 2 * (i + 1) = p + 1 + 1 + 2 * i by omega] at this
            exact this) (fun i hi => by
            have := hP (i + 1) (by omega)
            rw [show p + 2 * (i + 1) + 1 = p + 1 + 1 + 2 * i + 1 by omega] at this
            exact this) (by rw [show p + 1 + 1 + 2 * m + 1 = p + 2 * (m + 1) + 1 by omega]; exact hz)
          rw [show p + 1 + 1 + 2 * m + 1 = p + 2 * (m + 1) + 1 by omega] at e1
          exact ⟨y, py, e1.trans (stops hz), e3⟩
        · obtain rfl : m = 0 := by have := h0 (by omega); omega
          have hrs : rightSlot (oneS prio side) = prio + 1 := by
            show (if side = 2 ∨ true = false then prio else prio + 1) = _
            rw [if_neg (by rintro (h | h); (· exact h2 h); (· cases h))]
          rw [hrs]
          obtain ⟨y, hy, hys⟩ := atom_s (T := T) (last := last) (side := side) (prio := prio) (lower := lower) (f := f) (n := prio + 1) (p := p + 1 + 1) (hA 1 (by omega)) (by
            rcases hz with h | ⟨h, hh⟩ | ⟨h, hh⟩
            · exact .inl h
            · exact .inr (.inl ⟨h, by omega⟩)
            · exact .inr (.inr ⟨h, by omega⟩))
          exact ⟨y, 10, hy, hys⟩
      obtain ⟨y, py, hy, hys⟩ := hy
      refine ⟨.mk 50 0 ⟨#[95, 43, 95]⟩ [x, y] x.b y.e, prio, last - 1, ?_, by omega, ?_, .inr rfl⟩
      · rw [hstart, plus_step (k := last) hp0 hn (.inl h10) hy, show last - 1 + 1 = last by omega]
        rfl
      · rw [wantS]
        by_cases h2 : side = 2
        · rw [if_pos h2]
          exact same_plus hs hys
        · obtain rfl : m = 0 := by have := h0 (by omega); omega
          rw [if_neg h2]
          exact same_plus hs hys
end
/-! #### Readings -/
theorem want_size (side : Int) : ∀ m, cnt (wantS side m) = 2 * m + 1 ∧ dep (wantS side m) ≤ m + 1
  | 0 => by
    show cnt ndA = 1 ∧ dep ndA ≤ 1
    decide
  | m + 1 => by
    obtain ⟨h1, h2⟩ := want_size side m
    rw [wantS]
    split <;>
    · simp only [cnt, cnts, dep, deps, h1, ndA]
      omega
theorem tab_true {prio side lower : Int} : tabM true (opsS prio side lower) = tA prio side lower := rfl
theorem tab_false {prio side lower : Int} : tabM false (opsS prio side lower) = [] := rfl
theorem opsS_ok {prio side lower : Int} : OpsOk (opsS prio side lower) := by
  refine ⟨by show 2 ≤ 300; decide, fun m hm => ?_⟩
  have hm : m = oneS prio side ∨ m = twoS lower := by simpa [opsS] using hm
  rcases hm with rfl | rfl <;>
  · refine ⟨by show 1 ≤ 20; decide, fun s hs => ?_⟩
    have hs := List.mem_singleton.1 hs
    subst hs
    show 1 ≤ 100
    decide
theorem chain_parts {T : List Tk} {m : Nat} (h : Chain T 0 m) : ∀ i, i < 2 * m + 1 → partT (tokAt T i) = true := by
  intro i hi
  rcases Nat.mod_two_eq_zero_or_one i with h0 | h0
  · have := isA_part (h.1 (i / 2) (by omega))
    rw [show 0 + 2 * (i / 2) = i by omega] at this
    exact this
  · have := isP_part (h.2 (i / 2) (by omega))
    rw [show 0 + 2 * (i / 2) + 1 = i by omega] at this
    exact this
theorem kd_plus : kdP ⟨#[43]⟩ = 4 := by decide +kernel
theorem kd_hash : kdP ⟨#[35]⟩ = 4 := by decide +kernel
section
variable {prio side lower : Int} (hp : 1 ≤ prio ∧ prio ≤ 9) (hs : 0 ≤ side ∧ side ≤ 2) (hl : 1 ≤ lower ∧ lower < prio)
include hp hs hl
theorem apart_ops : apartM kdP (opsS prio side lower) = true := by
  have a1 : rightM kdP (oneS prio side) = true := by
    simp [rightM, oneS, badPart, kd_plus, hp.1, hp.2, hs.1, hs.2]
  have a2 : rightM kdP (twoS lower) = true := by
    have h9 : lower ≤ 9 := by omega
    simp [rightM, twoS, badPart, kd_hash, hl.1, h9]
  have a3 : decide (keyM (oneS prio side) = keyM (twoS lower)) = false := by simp [keyM, firstP, oneS, twoS]
  simp only [apartM, opsS, aptL, a1, a2, List.any_nil, List.nil_append, List.any_cons, a3]
  rfl
end
theorem parts_run {T : List Tk} : ∀ (k p : Nat), (∀ i, i < k → partT (tokAt T (p + i)) = true) → runD T k 0 p = some 0
  | 0, p, h => rfl
  | k + 1, p, h => by
    have h0 := h 0 (by omega)
    rw [Nat.add_zero] at h0
    rw [runD, step_part h0]
    exact parts_run k (p + 1) (fun i hi => by have := h (i + 1) (by omega); rw [show p + (i + 1) = p + 1 + i by omega] at this; exact this)
/-- An expression that is all of a text's parts. -/
theorem expr_all {tx : ByteArray} {T : List Tk} {n : Nat} (hT : T.length = n + 1) (h : ∀ i, i < n + 1 → partT (tokAt T i) = true) : pExpr tx T 0 [] = .ok (.mk (-1) 0 ⟨#[]⟩ [] (here tx T 0) (max (here tx T 0 : Int) (behind T (n + 1)))) (n + 1) [(0, n + 1)] := by
  have hE : exprEnd T (T.length + 1) 0 0 = n + 1 := by
    have := exprEnd_of (T := T) (n + 1) (T.length + 1) 0 0 0 (by omega) (parts_run (n + 1) 0 (fun i hi => by rw [Nat.zero_add]; exact h i hi)) (by rw [Nat.zero_add, tokAt_end (by omega)]; exact dull_no.step)
    omega
  have ho : opensT (tokAt T 0) = true := by simp [opensT, h 0 (by omega)]
  unfold pExpr
  rw [hE, if_pos ho]
  rfl
theorem given_one {ops : List Mx} {tx : ByteArray} {T : List Tk} {n : Nat} {v w : Nd} {z : Nat} (hap : apartM kdP ops = true) (hlx : lxP tx = (T, 0, 0)) (hT : T.length = n + 1) (h : ∀ i, i < n + 1 → partT (tokAt T i) = true) (hv : sSolve T (tabM true ops) (tabM false ops) (0, n + 1) = .ok v z) (hw : same v w = true) (hc : cnt w ≤ 60000) (hd : dep w ≤ 400) :
    givenP lxP pExpr kdP ops tx = ⟨v, 0, 0⟩ := by
  have hcd := same_cnt v w hw
  have hfl : ∀ b e : Int, fill [v] (.mk (-1) 0 ⟨#[]⟩ [] b e) = v := fun b e => by rw [fill, if_pos rfl]; rfl
  have := given_of (tx := tx) (rule := pExpr) (es := [v]) hap (by rw [hlx]) (by rw [hlx]; exact expr_all hT h) (by rw [hlx]; dsimp only; omega) (by rw [hlx]; exact .cons _ _ _ _ _ hv .nil) (by rw [hfl, hcd.1]; exact hc) (by rw [hfl, hcd.2]; exact hd)
  rw [hfl] at this
  exact this
section
variable {prio side lower : Int} (hp : 1 ≤ prio ∧ prio ≤ 9) (hs : 0 ≤ side ∧ side ≤ 2) (hl : 1 ≤ lower ∧ lower < prio)
include hp hs hl
/-- A CHAIN. -/
theorem sides_one (m : Nat) (hm : m ≤ 60) (h0 : side = 0 → m ≤ 1) : ∃ n, givenP lxP pExpr kdP (opsS prio side lower) (textS m) = ⟨n, 0, 0⟩ ∧ same n (wantS side m) = true := by
  have hc := chain_at m
  have hlen := chain_len m
  have hlx := lx_chain m hm
  generalize (tsS m).map toTk = T at hc hlen hlx
  have hN : ∀ i, i < 2 * m + 1 → nxt T (2 * m + 1) i = tokAt T i := fun i hi => by rw [nxt, if_pos hi]
  obtain ⟨x, pr, k, e1, e2, e3, e4⟩ := chain_s (T := T) (last := 2 * m + 1) (prio := prio) (side := side) (lower := lower) (by omega) (by omega) m (2 * m + 1 + 1) 0 0 h0 (by omega) (by omega) (by omega) (fun i hi => by
    rw [hN _ (by omega)]
    exact hc.1 i hi) (fun i hi => by
    rw [hN _ (by omega)]
    exact hc.2 i hi) (.inl (by rw [nxt, if_neg (by omega)]; exact dull_no))
  have hsv : sSolve T (tabM true (opsS prio side lower)) (tabM false (opsS prio side lower)) (0, 2 * m + 1) = .ok x (2 * m + 1) := by
    rw [tab_true, tab_false, sSolve]
    dsimp only
    rw [e1, sUpL_stop (by rw [nxt, if_neg (by omega)]; exact dull_no)]
    dsimp only [SRes.bnd]
    rw [if_pos (by omega), Nat.zero_add]
  have hw := want_size side m
  exact ⟨x, given_one (apart_ops hp hs hl) hlx hlen (chain_parts hc) hsv e3 (by omega) (by omega), e3⟩
/-- A chain of an operation that has no side. -/
theorem sides_none (m : Nat) (hm : m ≤ 60) (h0 : side = 0) (h1 : 1 < m) : ∃ n, givenP lxP pExpr kdP (opsS prio side lower) (textS m) = ⟨n, 6, 22⟩ := by
  have hc := chain_at m
  have hlen := chain_len m
  have hlx := lx_chain m hm
  have h3 : ∃ t, ((tsS m).map toTk)[3]? = some t ∧ t.b = 6 := by
    obtain ⟨m, rfl⟩ : ∃ j, m = j + 2 := ⟨m - 2, by omega⟩
    exact ⟨_, rfl, rfl⟩
  generalize (tsS m).map toTk = T at hc hlen hlx h3
  have hN : ∀ i, i < 2 * m + 1 → nxt T (2 * m + 1) i = tokAt T i := fun i hi => by rw [nxt, if_pos hi]
  have hA : ∀ i, i ≤ m → IsA (nxt T (2 * m + 1) (0 + 2 * i)) := fun i hi => by rw [hN _ (by omega)]; exact hc.1 i hi
  have hP : ∀ i, i < m → IsP ⟨#[43]⟩ (nxt T (2 * m + 1) (0 + 2 * i + 1)) := fun i hi => by rw [hN _ (by omega)]; exact hc.2 i hi
  obtain ⟨x, hx, hxs⟩ := first_a (up := sUp T (2 * m + 1) (tA prio side lower) [] (2 * m + 1)) (n := 0) (hA 0 (by omega)) (isP_not (hP 0 (by omega)) _)
  have hrs : rightSlot (oneS prio side) = prio + 1 := by
    show (if side = 2 ∨ true = false then prio else prio + 1) = _
    rw [if_neg (by rintro (h | h); (· omega); (· cases h))]
  obtain ⟨y, hy, hys⟩ := atom_s (T := T) (last := 2 * m + 1) (prio := prio) (side := side) (lower := lower) (f := 2 * m) (n := prio + 1) (hA 1 (by omega)) (.inr (.inl ⟨hP 1 (by omega), by omega⟩))
  have hst := plus_step (T := T) (last := 2 * m + 1) (prio := prio) (side := side) (lower := lower) (n := 0) (k := 2 * m + 1) (x := x) (pr := 10) (hP 0 (by omega)) (by omega) (.inl (by omega)) (by rw [hrs]; exact hy)
  have hsv : sSolve T (tA prio side lower) [] (0, 2 * m + 1) = .bad 3 := by
    rw [sSolve]
    dsimp only
    rw [sUp, sUpTo, hx]
    dsimp only [SRes.bnd]
    rw [hst]
    have h2 := hP 1 (by omega)
    rw [sUpL, isP_not h2, if_neg (by simp), h2.2, look_plus]
    dsimp only
    rw [if_neg (fun hh => hh.2.2.2 ⟨rfl, by show ¬ side = 1; omega⟩)]
    dsimp only
    rw [if_neg (by omega)]
  unfold givenP
  rw [apart_ops hp hs hl, if_neg (by simp)]
  unfold readP
  rw [hlx]
  dsimp only
  rw [if_neg (by simp), expr_all hlen (chain_parts hc)]
  dsimp only
  rw [if_neg (by omega), apart_ops hp hs hl, if_neg (by simp), tab_true, tab_false, solveL, hsv]
  obtain ⟨t, ht, hb⟩ := h3
  refine ⟨zeroN, ?_⟩
  dsimp only [SRes.bnd]
  rw [here, ht]
  show Rd3.mk zeroN (t.b : Int) 22 = _
  rw [hb]
  rfl
/-- ONE WITHIN THE OTHER. -/
theorem sides_two (m : Nat) (hm : m ≤ 60) (h0 : side = 0 → m ≤ 1) : ∃ n, givenP lxP pExpr kdP (opsS prio side lower) (twice m) = ⟨n, 0, 0⟩ ∧ same n (.mk 50 0 ⟨#[95, 35, 95]⟩ [wantS side m, wantS side m] 0 0) = true := by
  have hc := chain_at m
  have hlen := chain_len m
  have hlx := lx_twice m hm
  generalize (tsS m).map toTk = U at hc hlen hlx
  have hUl : (U.map (shT (4 * m + 4))).length = 2 * m + 1 := by rw [List.length_map]; exact hlen
  have hTl : (U ++ (⟨4, 0, ⟨#[35]⟩, 4 * m + 2, 4 * m + 3⟩ :: U.map (shT (4 * m + 4)))).length = 4 * m + 3 := by
    rw [List.length_append, List.length_cons, hUl, hlen]
    omega
  have hleft : ∀ i, i < 2 * m + 1 → tokAt (U ++ (⟨4, 0, ⟨#[35]⟩, 4 * m + 2, 4 * m + 3⟩ :: U.map (shT (4 * m + 4)))) i = tokAt U i := fun i hi => tokAt_left (by omega)
  have hmid : IsP ⟨#[35]⟩ (tokAt (U ++ (⟨4, 0, ⟨#[35]⟩, 4 * m + 2, 4 * m + 3⟩ :: U.map (shT (4 * m + 4)))) (2 * m + 1)) := by
    rw [tokAt_right (by omega), hlen, Nat.sub_self]
    exact ⟨rfl, rfl⟩
  have hright : ∀ i, i < 2 * m + 1 → tokAt (U ++ (⟨4, 0, ⟨#[35]⟩, 4 * m + 2, 4 * m + 3⟩ :: U.map (shT (4 * m + 4)))) (2 * m + 2 + i) = shT (4 * m + 4) (tokAt U i) := fun i hi => by
    rw [tokAt_right (by omega), hlen, show 2 * m + 2 + i - (2 * m + 1) = i + 1 by omega, tokAt_cons, tokAt_map (by omega)]
  generalize U ++ (⟨4, 0, ⟨#[35]⟩, 4 * m + 2, 4 * m + 3⟩ :: U.map (shT (4 * m + 4))) = T at hTl hleft hmid hright hlx
  have hN : ∀ i, i < 4 * m + 3 → nxt T (4 * m + 3) i = tokAt T i := fun i hi => by rw [nxt, if_pos hi]
  have hH : IsP ⟨#[35]⟩ (nxt T (4 * m + 3) (0 + 2 * m + 1)) := by rw [Nat.zero_add, hN _ (by omega)]; exact hmid
  obtain ⟨x, pr, k, e1, e2, e3, e4⟩ := chain_s (T := T) (last := 4 * m + 3) (prio := prio) (side := side) (lower := lower) (by omega) (by omega) m (4 * m + 3 + 1) 0 0 h0 (by omega) (by omega) (by omega) (fun i hi => by
    rw [hN _ (by omega), hleft _ (by omega)]
    exact hc.1 i hi) (fun i hi => by
    rw [hN _ (by omega), hleft _ (by omega)]
    exact hc.2 i hi) (.inr (.inr ⟨hH, by omega⟩))
  obtain ⟨y, py, k2, f1, f2, f3, f4⟩ := chain_s (T := T) (last := 4 * m + 3) (prio := prio) (side := side) (lower := lower) (by omega) (by omega) m (4 * m + 3) (lower + 1) (2 * m + 2) h0 (by omega) (by omega) (by omega) (fun i hi => by
    rw [hN _ (by omega), hright _ (by omega)]
    have := hc.1 i hi
    rw [Nat.zero_add] at this
    exact this) (fun i hi => by
    rw [show 2 * m + 2 + 2 * i + 1 = 2 * m + 2 + (2 * i + 1) by omega, hN _ (by omega), hright _ (by omega)]
    have := hc.2 i hi
    rw [Nat.zero_add] at this
    exact this) (.inl (by rw [nxt, if_neg (by omega)]; exact dull_no))
  rw [sUpL_stop (by rw [nxt, if_neg (by omega)]; exact dull_no)] at f1
  obtain ⟨k, rfl⟩ : ∃ j, k = j + 1 := ⟨k - 1, by omega⟩
  have hsame : same (.mk 50 0 ⟨#[95, 35, 95]⟩ [x, y] x.b y.e) (.mk 50 0 ⟨#[95, 35, 95]⟩ [wantS side m, wantS side m] 0 0) = true := by
    refine same_mk ?_
    rw [sames, sames, e3, f3]
    rfl
  have hsv : sSolve T (tabM true (opsS prio side lower)) (tabM false (opsS prio side lower)) (0, 4 * m + 3) = .ok (.mk 50 0 ⟨#[95, 35, 95]⟩ [x, y] x.b y.e) (4 * m + 3) := by
    rw [tab_true, tab_false, sSolve]
    dsimp only
    rw [e1, sUpL, isP_not hH, if_neg (by simp), hH.2, look_hash]
    dsimp only
    rw [if_pos ⟨isP_part hH, show ¬ lower < 0 by omega, show ¬ pr < lower by omega, fun hh => by
      have h1 : pr = lower := hh.1
      omega⟩, show 4 * m + 3 + 1 - 1 = 4 * m + 3 by omega, rest_hash, show 0 + 2 * m + 1 + 1 = 2 * m + 2 by omega, f1]
    dsimp only [SRes.bnd]
    rw [sUpL_stop (by rw [nxt, if_neg (by omega)]; exact dull_no)]
    dsimp only
    rw [if_pos (by omega), show 2 * m + 2 + 2 * m + 1 = 4 * m + 3 by omega]
  have hw := want_size side m
  have hparts : ∀ i, i < 4 * m + 2 + 1 → partT (tokAt T i) = true := fun i hi => by
    rcases Nat.lt_trichotomy i (2 * m + 1) with h | h | h
    · rw [hleft i h]
      exact chain_parts hc i h
    · subst h
      exact isP_part hmid
    · have := hright (i - (2 * m + 2)) (by omega)
      rw [show 2 * m + 2 + (i - (2 * m + 2)) = i by omega] at this
      rw [this]
      exact chain_parts hc (i - (2 * m + 2)) (by omega)
  refine ⟨_, given_one (n := 4 * m + 2) (apart_ops hp hs hl) hlx (by omega) hparts hsv hsame ?_ ?_, hsame⟩
  · simp only [cnt, cnts, hw.1]; omega
  · simp only [dep, deps]; omega
end
end Go.Proofs.YtjcocblohiglbaaGreatDoor
