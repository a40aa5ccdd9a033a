/- Right tokens: how long they are, and the tokens of their texts. No program in sight. Conditions: none. -/
import Derived.Test.YtglgppkjgodlkaaGreatDoorLTB
namespace Go.Proofs.YtglgppkjgodlkaaGreatDoor.Lex
set_option linter.unusedVariables false
set_option linter.unusedSimpArgs false

theorem step_len32 {l : Bytes} {kd n : Int} {s : Bytes} {k : Nat} (h : step l = .tok kd n s k) (h3 : kd ≠ 3) : k ≤ 32 := by
  cases l with
  | nil => cases h
  | cons c r =>
    unfold step at h
    simp only at h
    split at h
    · cases h
    split at h
    · unfold wordStep at h; simp only at h; split at h
      · cases h
      · injection h with _ _ _ h; omega
    split at h
    · unfold numStep at h; simp only at h
      split at h
      · cases h
      · split at h
        · cases h
        · injection h with h _; exact absurd h.symm h3
    split at h
    · unfold symStep at h; simp only at h; split at h
      · cases h
      · injection h with _ _ _ h; omega
    split at h
    · unfold markStep at h
      split at h
      · split at h <;> cases h
      · split at h
        · rename_i hk
          injection h with _ _ _ h
          have := markLen_bounds _ _ hk
          omega
        · cases h
    · cases h
theorem Right.text {t : Tok} (h : Right t) (h3 : t.kind ≠ 3) : t.s.length ≤ 32 := by
  unfold Right at h
  have := step_len32 h h3
  have e : t.txt = t.s := by unfold Tok.txt txt; rw [if_neg h3]
  rw [e] at this
  exact this
theorem Right.num {t : Tok} (h : Right t) (h3 : t.kind = 3) : t.s = [] ∧ 0 ≤ t.n := by
  unfold Right at h
  rcases step_form h with ⟨e, _⟩ | ⟨_, e1, e2, _, _, e⟩ | ⟨e, _⟩
  · rw [h3] at e; split at e <;> omega
  · exact ⟨e2, by rw [e1]; omega⟩
  · rw [h3] at e; split at e <;> omega
theorem Right.small {t : Tok} (h : Right t) : t.s.length ≤ 64 ∧ ¬ (t.kind = 3 ∧ t.n < 0) := by
  by_cases h3 : t.kind = 3
  · have := h.num h3
    rw [this.1]
    exact ⟨by simp, fun h => by omega⟩
  · exact ⟨by have := h.text h3; omega, fun h => h3 h.1⟩
theorem itoa_len (n : Int) (h0 : -9223372036854775808 ≤ n) (h1 : n ≤ 9223372036854775807) : (Lib.itoa n).length ≤ 20 := by
  have hd : ∀ u : Nat, u ≤ 9223372036854775808 → (Lib.decDigits u).length ≤ 19 := fun u hu => by
    rw [Lib.decDigits_length]
    exact nDigits_le u 18 (by have : (10 : Nat) ^ (18 + 1) = 10000000000000000000 := by decide
                              omega)
  unfold Lib.itoa
  split
  · rw [List.length_cons]
    have := hd n.natAbs (by omega)
    omega
  · have := hd n.toNat (by omega)
    omega
theorem txt_len (t : Tok) (h0 : -9223372036854775808 ≤ t.n) (h1 : t.n ≤ 9223372036854775807) : t.txt.length ≤ t.s.length + 20 := by
  unfold Tok.txt txt
  split
  · have := itoa_len t.n h0 h1; omega
  · omega
/-- a text's tokens: one, which takes all of it -/
def OneTok (l : Bytes) (t : Tok) : Prop := ∃ u, tokensL l = ([u], 0, 0) ∧ Like u t ∧ (u.e : Int) - (u.b : Int) = (l.length : Int)
theorem one_right {t : Tok} (hl : t.txt.length ≤ 100000) : OneTok t.txt t ↔ Right t := by
  constructor
  · rintro ⟨u, hu, hlk, he⟩
    obtain ⟨_, _, _, cs, hc⟩ := tokens_done hu
    obtain ⟨kd, n, s, h1, h2⟩ := cut_one hc he
    subst h2
    unfold Right
    rw [h1]
    obtain ⟨e1, e2, e3⟩ := hlk
    have e1 : kd = t.kind := e1
    have e2 : n = t.n := e2
    have e3 : s = t.s := e3
    rw [e1, e2, e3]
  · intro h
    exact ⟨_, step_tokens h hl, ⟨rfl, rfl, rfl⟩, by simp⟩
def TwoToks (l : Bytes) (a b : Tok) : Prop := ∃ u v, tokensL l = ([u, v], 0, 0) ∧ Like u a ∧ Like v b
theorem two_apart {a b : Tok} (ha : Right a) (hb : Right b) (hl : (a.txt ++ b.txt).length ≤ 100000) : TwoToks (a.txt ++ b.txt) a b ↔ Apart a b := by
  constructor
  · rintro ⟨u, v, hu, hlu, hlv⟩
    obtain ⟨_, _, _, cs, hc⟩ := tokens_done hu
    have hr := cut_done hc
    obtain ⟨k1, g1, g2⟩ := hr.step_at u (by simp)
    obtain ⟨k2, g3, g4⟩ := hr.step_at v (by simp)
    obtain ⟨c1, c2, k, q1, q2, q3, q4, q5, q6⟩ := hr.split u [v] rfl
    have hbv := q5.bounds.2 v (by simp)
    have l1 := step_least g1
    have l2 := step_least g3
    rw [hlu.1, hlu.2.1, hlu.2.2] at l1
    rw [hlv.1, hlv.2.1, hlv.2.2] at l2
    have l1 : a.txt.length ≤ k1 := l1
    have l2 : b.txt.length ≤ k2 := l2
    rw [List.length_append] at hbv
    have e : u.b = 0 := by omega
    have e2 : k1 = a.txt.length := by omega
    rw [e, Nat.sub_zero, List.drop_zero, e2, hlu.1, hlu.2.1, hlu.2.2] at g1
    exact g1
  · intro h
    have r : Runs (a.txt ++ b.txt) 0 [⟨a.kind, a.n, a.s, 0, 0 + a.txt.length⟩, ⟨b.kind, b.n, b.s, 0 + a.txt.length, 0 + a.txt.length + b.txt.length⟩] [] [] (0 + a.txt.length + b.txt.length) :=
      .tok h (by rw [List.drop_left]; exact .tok hb (by rw [List.drop_length]; exact .nil _ _))
    refine ⟨⟨a.kind, a.n, a.s, 0, 0 + a.txt.length⟩, ⟨b.kind, b.n, b.s, 0 + a.txt.length, 0 + a.txt.length + b.txt.length⟩, ?_, ⟨rfl, rfl, rfl⟩, ⟨rfl, rfl, rfl⟩⟩
    unfold tokensL
    rw [if_neg (by omega), cut_of_done r]
    rfl
/-- behind a token -/
noncomputable def tailJ (p : Tok) : List Tok → Bytes
  | [] => []
  | b :: r => sepL p b ++ (b.txt ++ tailJ b r)
theorem join_tail (a : Tok) : ∀ r : List Tok, joinL (a :: r) = a.txt ++ tailJ a r
  | [] => by rw [tailJ, List.append_nil]; rfl
  | b :: r => by
    show a.txt ++ (sepL a b ++ joinL (b :: r)) = _
    rw [join_tail b r, tailJ]
theorem sepL_len (a b : Tok) : (sepL a b).length ≤ 1 := by unfold sepL; split <;> simp
/-- the bytes of the tokens -/
def sumT : List Tok → Nat
  | [] => 0
  | t :: r => t.txt.length + sumT r
theorem tail_len (p : Tok) : ∀ r : List Tok, sumT r ≤ (tailJ p r).length ∧ (tailJ p r).length ≤ sumT r + r.length
  | [] => ⟨Nat.le_refl _, Nat.le_refl _⟩
  | b :: r => by
    have := tail_len b r
    have := sepL_len p b
    rw [tailJ, List.length_append, List.length_append, sumT, List.length_cons]
    omega
theorem join_len2 : ∀ L : List Tok, sumT L ≤ (joinL L).length ∧ (joinL L).length ≤ sumT L + (L.length - 1)
  | [] => ⟨Nat.le_refl _, Nat.le_refl _⟩
  | a :: r => by
    have := tail_len a r
    rw [join_tail, List.length_append, sumT, List.length_cons]
    omega
theorem join_pos {L : List Tok} (h : ∀ t ∈ L, Right t) (hL : L ≠ []) : 1 ≤ (joinL L).length := by
  cases L with
  | nil => exact absurd rfl hL
  | cons a r =>
    obtain ⟨c, r2, e⟩ := (h a (by simp)).cons
    rw [join_tail, e]
    simp
/-- THE CUT OF THE JOINED TEXT. -/
theorem join_cut (L : List Tok) (h : ∀ t ∈ L, Right t) : ∃ ts, cutL (joinL L) = .done ts [] ∧ Likes ts L := by
  obtain ⟨ts, hr, hl⟩ := join_runs L h 0
  exact ⟨ts, cut_of_done hr, hl⟩
theorem no_shorter {L : List Tok} (h : ∀ t ∈ L, Right t) (hL : L ≠ []) {u : Bytes} {ts : List Tok} {cs : List (Nat × Nat)} (hc : cutL u = .done ts cs) (hl : Likes ts L) : (joinL L).length ≤ u.length := by
  cases ts with
  | nil => cases hl; exact absurd rfl hL
  | cons t ts =>
    have := join_least L h (cut_done hc) hl
    omega
end Go.Proofs.YtglgppkjgodlkaaGreatDoor.Lex
