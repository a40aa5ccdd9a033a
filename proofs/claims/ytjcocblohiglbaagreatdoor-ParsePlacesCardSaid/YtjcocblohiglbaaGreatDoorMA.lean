/- Parts LSpec, LPure, LT1, LT2, LT3 of the walks of package lex, in one text. -/

/- The plain functions that the scanner of package lex computes: classes of bytes, one step, the whole cut; no program in sight. Conditions: none. -/
namespace Go.Proofs.YtjcocblohiglbaaGreatDoor.Lex

abbrev Bytes := List UInt8

def isBlank (c : UInt8) : Bool := c == 32 || c == 9 || c == 10 || c == 13
def isLetter (c : UInt8) : Bool := (97 ≤ c && c ≤ 122) || (65 ≤ c && c ≤ 90)
def isDigit (c : UInt8) : Bool := 48 ≤ c && c ≤ 57
def symsL : Bytes := [35, 36, 37, 38, 42, 43, 45, 46, 47, 60, 61, 62, 64, 92, 94, 126]
def marksL : Bytes := [40, 41, 91, 93, 123, 125, 44, 59, 58, 63, 33, 95, 124]
def isSym (c : UInt8) : Bool := symsL.contains c
def isMark (c : UInt8) : Bool := marksL.contains c
def inName (c : UInt8) : Bool := isLetter c || isDigit c || c == 39
/-- the class of a byte, as the program numbers them -/
def cls (c : UInt8) : Nat := if isBlank c then 1 else if isLetter c then 2 else if isDigit c then 3 else if isSym c then 4 else if isMark c then 5 else 0

def wordsL : List Bytes := [[97, 99, 99, 101, 112, 116], [97, 110, 121], [98, 101, 104, 97, 118, 105, 111, 117, 114], [99, 104, 111, 105, 99, 101], [101, 110, 100, 108, 105, 98], [101, 110, 100, 112, 114, 111, 99], [101, 110, 100, 115, 112, 101, 99], [101, 110, 100, 116, 121, 112, 101], [101, 113, 110, 115], [101, 120, 105, 116], [102, 111, 114], [102, 111, 114, 97, 108, 108], [102, 111, 114, 109, 97, 108, 101, 113, 110, 115], [102, 111, 114, 109, 97, 108, 111, 112, 110, 115], [102, 111, 114, 109, 97, 108, 115, 111, 114, 116, 115], [104, 105, 100, 101], [105], [105, 110], [105, 115], [108, 101, 116], [108, 105, 98, 114, 97, 114, 121], [110, 111, 101, 120, 105, 116], [111, 102], [111, 102, 115, 111, 114, 116], [111, 112, 110, 110, 97, 109, 101, 115], [111, 112, 110, 115], [112, 114, 111, 99, 101, 115, 115], [114, 101, 110, 97, 109, 101, 100, 98, 121], [97, 99, 116, 117, 97, 108, 105, 122, 101, 100, 98, 121], [115, 111, 114, 116, 110, 97, 109, 101, 115], [115, 111, 114, 116, 115], [115, 112, 101, 99, 105, 102, 105, 99, 97, 116, 105, 111, 110], [115, 116, 111, 112], [116, 121, 112, 101], [117, 115, 105, 110, 103], [119, 97, 105, 116], [119, 104, 101, 114, 101]]
def signsL : List Bytes := [[40], [41], [91], [93], [123], [125], [44], [59], [58], [63], [33], [95], [91, 93], [91, 62], [124, 91], [93, 124], [124, 124], [124, 124, 124], [58, 61], [61], [45, 62], [61, 62], [62, 62], [46, 46]]

structure Tok where
  kind : Int
  n : Int
  s : Bytes
  b : Nat
  e : Nat
deriving DecidableEq

def digVal (l : Bytes) : Nat := l.foldl (fun a c => 10 * a + (c.toNat - 48)) 0

/-- how many bytes a comment goes on, `d` being open -/
def comLen : Nat → Bytes → Option Nat
  | _, [] => none
  | _, [_] => none
  | d, c :: c' :: r =>
    if c = 40 ∧ c' = 42 then (comLen (d + 1) r).map (· + 2)
    else if c = 42 ∧ c' = 41 then (if d = 1 then some 2 else (comLen (d - 1) r).map (· + 2))
    else (comLen d (c' :: r)).map (· + 1)

inductive Step where
  | skip
  | comm (k : Nat)
  | tok (kind n : Int) (s : Bytes) (k : Nat)
  | bad
deriving DecidableEq

def begComment (l : Bytes) : Bool := match l with
  | 40 :: 42 :: _ => true
  | _ => false

/-- a sign that begins with no symbol: the longest first -/
def markLen (l : Bytes) : Option Nat :=
  if 3 ≤ l.length ∧ signsL.contains (l.take 3) then some 3
  else if 2 ≤ l.length ∧ signsL.contains (l.take 2) then some 2
  else if 1 ≤ l.length ∧ signsL.contains (l.take 1) then some 1
  else none

def wordStep (l : Bytes) : Step :=
  let w := l.takeWhile inName
  if w.length > 32 then .bad else .tok (if wordsL.contains w then 2 else 1) 0 w w.length
def nextInName (l : Bytes) : Bool := match l with
  | [] => false
  | c :: _ => inName c
def numStep (l : Bytes) : Step :=
  let w := l.takeWhile isDigit
  if digVal w > 2147483647 then .bad else if nextInName (l.drop w.length) then .bad else .tok 3 (digVal w) [] w.length
def symStep (l : Bytes) : Step :=
  let w := l.takeWhile isSym
  if w.length > 32 then .bad else .tok (if signsL.contains w then 5 else 4) 0 w w.length
def markStep (l : Bytes) : Step :=
  if begComment l then (match comLen 0 l with | some k => .comm k | none => .bad)
  else match markLen l with
    | some k => .tok 5 0 (l.take k) k
    | none => .bad

def step (l : Bytes) : Step := match l with
  | [] => .bad
  | c :: _ =>
    if cls c = 1 then .skip else if cls c = 2 then wordStep l else if cls c = 3 then numStep l
    else if cls c = 4 then symStep l else if cls c = 5 then markStep l else .bad

inductive Res where
  | done (ts : List Tok) (cs : List (Nat × Nat))
  | err (p : Nat)
deriving DecidableEq

def scan : Nat → Bytes → Nat → List Tok → List (Nat × Nat) → Res
  | 0, l, p, ts, cs => if l = [] then .done ts cs else .err p
  | n + 1, l, p, ts, cs => if l = [] then .done ts cs else
    match step l with
    | .skip => scan n (l.drop 1) (p + 1) ts cs
    | .comm k => scan n (l.drop k) (p + k) ts (cs ++ [(p, p + k)])
    | .tok kd m s k => scan n (l.drop k) (p + k) (ts ++ [⟨kd, m, s, p, p + k⟩]) cs
    | .bad => .err p

/-- the cut of a text -/
def cutL (l : Bytes) : Res := scan l.length l 0 [] []

/-- what Tokens returns: the tokens, the place of an error, its number -/
def tokensL (l : Bytes) : List Tok × Nat × Nat :=
  if l.length > 100000 then ([], 0, 2) else
  match cutL l with
  | .err p => ([], p, 10)
  | .done ts _ => if ts.length > 20000 then ([], 0, 2) else (ts, 0, 0)

end Go.Proofs.YtjcocblohiglbaaGreatDoor.Lex
/- Plain laws of the plain scanner: how far a step goes, and that more rounds tell the same. Conditions: none. -/
namespace Go.Proofs.YtjcocblohiglbaaGreatDoor.Lex
set_option linter.unusedVariables false
set_option linter.unusedSimpArgs false

theorem comLen_bounds : ∀ (l : Bytes) (d k : Nat), comLen d l = some k → 2 ≤ k ∧ k ≤ l.length
  | [], d, k, h => by simp [comLen] at h
  | [x], d, k, h => by simp [comLen] at h
  | x :: y :: r, d, k, h => by
    rw [comLen] at h
    split at h
    · simp at h
      obtain ⟨j, hj, rfl⟩ := h
      have := comLen_bounds r _ _ hj
      simp
      omega
    · split at h
      · split at h
        · simp at h
          subst h
          simp
        · simp at h
          obtain ⟨j, hj, rfl⟩ := h
          have := comLen_bounds r _ _ hj
          simp
          omega
      · simp at h
        obtain ⟨j, hj, rfl⟩ := h
        have := comLen_bounds (y :: r) _ _ hj
        simp at this ⊢
        omega
theorem takeWhile_len (f : UInt8 → Bool) (l : Bytes) : (l.takeWhile f).length ≤ l.length := (List.takeWhile_sublist f).length_le
theorem takeWhile_pos (f : UInt8 → Bool) (c : UInt8) (l : Bytes) (h : f c = true) : 1 ≤ ((c :: l).takeWhile f).length := by
  rw [List.takeWhile_cons, if_pos h]
  simp
theorem all_bytes {p : UInt8 → Prop} [∀ c, Decidable (p c)] (h : ∀ n : Fin 256, p (UInt8.ofFin n)) (c : UInt8) : p c := by
  have := h c.toFin
  simpa using this
theorem cls_lt (c : UInt8) : cls c < 6 := by
  unfold cls
  repeat' split
  all_goals omega
theorem cls2 : ∀ c : UInt8, cls c = 2 → inName c = true := fun c => by revert c; exact all_bytes (by decide +kernel)
theorem cls3 : ∀ c : UInt8, cls c = 3 ↔ isDigit c = true := fun c => by revert c; exact all_bytes (by decide +kernel)
theorem cls4 : ∀ c : UInt8, cls c = 4 ↔ isSym c = true := fun c => by revert c; exact all_bytes (by decide +kernel)
theorem markLen_bounds (l : Bytes) (k : Nat) (h : markLen l = some k) : 1 ≤ k ∧ k ≤ l.length ∧ k ≤ 3 := by
  unfold markLen at h
  split at h
  · simp at h; omega
  · split at h
    · simp at h; omega
    · split at h
      · simp at h; omega
      · cases h
theorem step_comm {l : Bytes} {k : Nat} (h : step l = .comm k) : 2 ≤ k ∧ k ≤ l.length := by
  cases l with
  | nil => cases h
  | cons c r =>
    unfold step at h
    simp only at h
    repeat' split at h
    · cases h
    · unfold wordStep at h; simp only at h; split at h <;> cases h
    · unfold numStep at h; simp only at h; repeat' split at h
      all_goals cases h
    · unfold symStep at h; simp only at h; split at h <;> cases h
    · unfold markStep at h
      split at h
      · split at h
        · injection h with h; subst h
          rename_i hk
          exact comLen_bounds _ _ _ hk
        · cases h
      · split at h <;> cases h
    · cases h
theorem step_tok {l : Bytes} {kd n : Int} {b : Bytes} {k : Nat} (h : step l = .tok kd n b k) : 1 ≤ k ∧ k ≤ l.length := by
  cases l with
  | nil => cases h
  | cons c r =>
    unfold step at h
    simp only at h
    split at h
    · cases h
    split at h
    · rename_i hc
      unfold wordStep at h; simp only at h; split at h
      · cases h
      · injection h with _ _ _ h; subst h
        exact ⟨takeWhile_pos _ _ _ (cls2 c hc), takeWhile_len _ _⟩
    split at h
    · rename_i hc
      unfold numStep at h; simp only at h
      split at h
      · cases h
      · split at h
        · cases h
        · injection h with _ _ _ h; subst h
          exact ⟨takeWhile_pos _ _ _ ((cls3 c).1 hc), takeWhile_len _ _⟩
    split at h
    · rename_i hc
      unfold symStep at h; simp only at h; split at h
      · cases h
      · injection h with _ _ _ h; subst h
        exact ⟨takeWhile_pos _ _ _ ((cls4 c).1 hc), takeWhile_len _ _⟩
    split at h
    · unfold markStep at h
      split at h
      · split at h <;> cases h
      · split at h
        · rename_i hk
          injection h with _ _ _ h; subst h
          have := markLen_bounds _ _ hk
          exact ⟨this.1, this.2.1⟩
        · cases h
    · cases h

theorem scan_fuel : ∀ (n m : Nat) (l : Bytes) (p : Nat) (ts : List Tok) (cs : List (Nat × Nat)), l.length ≤ n → l.length ≤ m → scan n l p ts cs = scan m l p ts cs := by
  intro n
  induction n with
  | zero =>
    intro m l p ts cs h1 h2
    have : l = [] := List.eq_nil_of_length_eq_zero (by omega)
    subst this
    cases m <;> simp [scan]
  | succ n ih =>
    intro m l p ts cs h1 h2
    cases m with
    | zero =>
      have : l = [] := List.eq_nil_of_length_eq_zero (by omega)
      subst this
      simp [scan]
    | succ m =>
      rw [scan, scan]
      by_cases e : l = []
      · rw [if_pos e, if_pos e]
      · rw [if_neg e, if_neg e]
        have hl : 0 < l.length := by cases l with | nil => exact absurd rfl e | cons => simp
        cases hs : step l with
        | skip => exact ih m _ _ _ _ (by simp; omega) (by simp; omega)
        | comm k =>
          have := step_comm hs
          exact ih m _ _ _ _ (by simp; omega) (by simp; omega)
        | tok kd n b k =>
          have := step_tok hs
          exact ih m _ _ _ _ (by simp; omega) (by simp; omega)
        | bad => rfl
/-- One step, with as many rounds as there are bytes. -/
theorem scan_step (l : Bytes) (p : Nat) (ts : List Tok) (cs : List (Nat × Nat)) (h : l ≠ []) : scan l.length l p ts cs = match step l with
    | .skip => scan (l.drop 1).length (l.drop 1) (p + 1) ts cs
    | .comm k => scan (l.drop k).length (l.drop k) (p + k) ts (cs ++ [(p, p + k)])
    | .tok kd m s k => scan (l.drop k).length (l.drop k) (p + k) (ts ++ [⟨kd, m, s, p, p + k⟩]) cs
    | .bad => .err p := by
  have hl : 0 < l.length := by cases l with | nil => exact absurd rfl h | cons => simp
  obtain ⟨n, hn⟩ : ∃ n, l.length = n + 1 := ⟨l.length - 1, by omega⟩
  rw [hn, scan, if_neg h]
  cases hs : step l with
  | skip => exact scan_fuel _ _ _ _ _ _ (by simp; omega) (by simp)
  | comm k =>
    have := step_comm hs
    exact scan_fuel _ _ _ _ _ _ (by simp; omega) (by simp)
  | tok kd m b k =>
    have := step_tok hs
    exact scan_fuel _ _ _ _ _ _ (by simp; omega) (by simp)
  | bad => rfl
theorem scan_nil (p : Nat) (ts : List Tok) (cs : List (Nat × Nat)) : scan 0 [] p ts cs = .done ts cs := by simp [scan]
end Go.Proofs.YtjcocblohiglbaaGreatDoor.Lex
/- The plain theory of the cut: runs of steps; what a step looks at. No program in sight. Conditions: none. -/
namespace Go.Proofs.YtjcocblohiglbaaGreatDoor.Lex
set_option linter.unusedVariables false
set_option linter.unusedSimpArgs false

/-- Some steps from the text l at place p on: the tokens, the comments, what is left and its place. -/
inductive Runs : Bytes → Nat → List Tok → List (Nat × Nat) → Bytes → Nat → Prop
  | nil (l : Bytes) (p : Nat) : Runs l p [] [] l p
  | skip {l : Bytes} {p : Nat} {ts : List Tok} {cs : List (Nat × Nat)} {l' : Bytes} {p' : Nat} (h : step l = .skip) (r : Runs (l.drop 1) (p + 1) ts cs l' p') : Runs l p ts cs l' p'
  | comm {l : Bytes} {p : Nat} {ts : List Tok} {cs : List (Nat × Nat)} {l' : Bytes} {p' : Nat} {k : Nat} (h : step l = .comm k) (r : Runs (l.drop k) (p + k) ts cs l' p') : Runs l p ts ((p, p + k) :: cs) l' p'
  | tok {l : Bytes} {p : Nat} {ts : List Tok} {cs : List (Nat × Nat)} {l' : Bytes} {p' : Nat} {kd n : Int} {s : Bytes} {k : Nat} (h : step l = .tok kd n s k) (r : Runs (l.drop k) (p + k) ts cs l' p') : Runs l p (⟨kd, n, s, p, p + k⟩ :: ts) cs l' p'

theorem step_ne {l : Bytes} (h : step l ≠ .bad) : l ≠ [] := by
  rintro rfl
  exact h rfl
theorem step_skip_len {l : Bytes} (h : step l = .skip) : 1 ≤ l.length := by
  cases l with
  | nil => cases h
  | cons c r => simp

theorem Runs.scan {l : Bytes} {p : Nat} {ts : List Tok} {cs : List (Nat × Nat)} {l' : Bytes} {p' : Nat} (h : Runs l p ts cs l' p') : ∀ ts0 cs0, scan l.length l p ts0 cs0 = scan l'.length l' p' (ts0 ++ ts) (cs0 ++ cs) := by
  induction h with
  | nil l p => intro ts0 cs0; simp
  | skip h r ih =>
    intro ts0 cs0
    rw [scan_step _ _ _ _ (step_ne (by rw [h]; simp)), h]
    exact ih ts0 cs0
  | comm h r ih =>
    intro ts0 cs0
    rw [scan_step _ _ _ _ (step_ne (by rw [h]; simp)), h]
    simp only
    rw [ih, List.append_assoc]
    rfl
  | tok h r ih =>
    intro ts0 cs0
    rw [scan_step _ _ _ _ (step_ne (by rw [h]; simp)), h]
    simp only
    rw [ih, List.append_assoc]
    rfl
theorem Runs.place {l : Bytes} {p : Nat} {ts : List Tok} {cs : List (Nat × Nat)} {l' : Bytes} {p' : Nat} (h : Runs l p ts cs l' p') : ∃ k, p' = p + k ∧ k ≤ l.length ∧ l' = l.drop k := by
  induction h with
  | nil l p => exact ⟨0, rfl, Nat.zero_le _, rfl⟩
  | skip h r ih =>
    obtain ⟨k, h1, h2, h3⟩ := ih
    have := step_skip_len h
    rw [List.length_drop] at h2
    exact ⟨1 + k, by omega, by omega, by rw [h3, List.drop_drop]⟩
  | comm h r ih =>
    obtain ⟨k, h1, h2, h3⟩ := ih
    have := step_comm h
    rw [List.length_drop] at h2
    rename_i k0
    exact ⟨k0 + k, by omega, by omega, by rw [h3, List.drop_drop]⟩
  | tok h r ih =>
    obtain ⟨k, h1, h2, h3⟩ := ih
    have := step_tok h
    rw [List.length_drop] at h2
    rename_i k0
    exact ⟨k0 + k, by omega, by omega, by rw [h3, List.drop_drop]⟩
theorem Runs.trans {l : Bytes} {p : Nat} {ts : List Tok} {cs : List (Nat × Nat)} {l' : Bytes} {p' : Nat} (h : Runs l p ts cs l' p') {ts2 : List Tok} {cs2 : List (Nat × Nat)} {l2 : Bytes} {p2 : Nat} (k : Runs l' p' ts2 cs2 l2 p2) : Runs l p (ts ++ ts2) (cs ++ cs2) l2 p2 := by
  induction h with
  | nil l p => exact k
  | skip h r ih => exact .skip h (ih k)
  | comm h r ih => exact .comm h (ih k)
  | tok h r ih => exact .tok h (ih k)

/-- What a cut comes to, as runs. -/
theorem scan_res : ∀ (n : Nat) (l : Bytes), l.length ≤ n → ∀ (p : Nat) (ts0 : List Tok) (cs0 : List (Nat × Nat)),
    (∃ ts cs, Runs l p ts cs [] (p + l.length) ∧ scan l.length l p ts0 cs0 = .done (ts0 ++ ts) (cs0 ++ cs)) ∨
    (∃ ts cs l' q, Runs l p ts cs l' q ∧ l' ≠ [] ∧ step l' = .bad ∧ scan l.length l p ts0 cs0 = .err q) := by
  intro n
  induction n with
  | zero =>
    intro l hl p ts0 cs0
    obtain rfl : l = [] := List.eq_nil_of_length_eq_zero (by omega)
    exact .inl ⟨[], [], .nil _ _, by simp [scan]⟩
  | succ n ih =>
    intro l hl p ts0 cs0
    by_cases hne : l = []
    · subst hne
      exact .inl ⟨[], [], .nil _ _, by simp [scan]⟩
    · rw [scan_step _ _ _ _ hne]
      cases hs : step l with
      | bad => exact .inr ⟨[], [], l, p, .nil _ _, hne, hs, rfl⟩
      | skip =>
        have h1 := step_skip_len hs
        rcases ih (l.drop 1) (by rw [List.length_drop]; omega) (p + 1) ts0 cs0 with ⟨ts, cs, hr, he⟩ | ⟨ts, cs, l', q, hr, h2, h3, he⟩
        · refine .inl ⟨ts, cs, .skip hs ?_, he⟩
          rw [List.length_drop, show p + 1 + (l.length - 1) = p + l.length by omega] at hr
          exact hr
        · exact .inr ⟨ts, cs, l', q, .skip hs hr, h2, h3, he⟩
      | comm k =>
        have h1 := step_comm hs
        rcases ih (l.drop k) (by rw [List.length_drop]; omega) (p + k) ts0 (cs0 ++ [(p, p + k)]) with ⟨ts, cs, hr, he⟩ | ⟨ts, cs, l', q, hr, h2, h3, he⟩
        · refine .inl ⟨ts, (p, p + k) :: cs, .comm hs ?_, he.trans (by rw [List.append_assoc]; rfl)⟩
          rw [List.length_drop, show p + k + (l.length - k) = p + l.length by omega] at hr
          exact hr
        · exact .inr ⟨ts, _, l', q, .comm hs hr, h2, h3, he⟩
      | tok kd m s k =>
        have h1 := step_tok hs
        rcases ih (l.drop k) (by rw [List.length_drop]; omega) (p + k) (ts0 ++ [⟨kd, m, s, p, p + k⟩]) cs0 with ⟨ts, cs, hr, he⟩ | ⟨ts, cs, l', q, hr, h2, h3, he⟩
        · refine .inl ⟨⟨kd, m, s, p, p + k⟩ :: ts, cs, .tok hs ?_, he.trans (by rw [List.append_assoc]; rfl)⟩
          rw [List.length_drop, show p + k + (l.length - k) = p + l.length by omega] at hr
          exact hr
        · exact .inr ⟨_, cs, l', q, .tok hs hr, h2, h3, he⟩
theorem cut_done {l : Bytes} {ts : List Tok} {cs : List (Nat × Nat)} (h : cutL l = .done ts cs) : Runs l 0 ts cs [] l.length := by
  unfold cutL at h
  rcases scan_res l.length l (Nat.le_refl _) 0 [] [] with ⟨ts1, cs1, hr, he⟩ | ⟨_, _, _, _, _, _, _, he⟩
  · rw [he] at h
    injection h with h1 h2
    simp at h1 h2
    subst h1 h2
    simpa using hr
  · rw [he] at h; cases h
theorem cut_of_done {l : Bytes} {ts : List Tok} {cs : List (Nat × Nat)} {p : Nat} (h : Runs l 0 ts cs [] p) : cutL l = .done ts cs := by
  unfold cutL
  rw [h.scan [] []]
  simp [scan]
end Go.Proofs.YtjcocblohiglbaaGreatDoor.Lex
/- What a step looks at: it is the same with a blank and anything behind it, and with what it did not take cut off. Conditions: none. -/
namespace Go.Proofs.YtjcocblohiglbaaGreatDoor.Lex
set_option linter.unusedVariables false
set_option linter.unusedSimpArgs false

theorem takeWhile_sep (f : UInt8 → Bool) (x : UInt8) (r : Bytes) (hx : f x = false) : ∀ l : Bytes, (l ++ x :: r).takeWhile f = l.takeWhile f
  | [] => by simp [hx]
  | c :: l => by
    simp only [List.cons_append, List.takeWhile_cons]
    split
    · rw [takeWhile_sep f x r hx l]
    · rfl
theorem takeWhile_cut (f : UInt8 → Bool) : ∀ (l : Bytes) (m : Nat), (l.takeWhile f).length ≤ m → (l.take m).takeWhile f = l.takeWhile f
  | [], m, _ => by simp
  | c :: l, 0, h => by
    rw [List.takeWhile_cons] at h ⊢
    split at h
    · simp at h
    · rename_i hc; simp [hc]
  | c :: l, m + 1, h => by
    simp only [List.take_succ_cons, List.takeWhile_cons] at h ⊢
    split
    · rename_i hc
      rw [if_pos hc] at h
      rw [takeWhile_cut f l m (by simpa using h)]
    · rfl
/-- a blank is in no name, is no digit, no symbol, in no sign -/
theorem sep_facts : ∀ x : UInt8, isBlank x = true → inName x = false ∧ isDigit x = false ∧ isSym x = false ∧ (signsL.all fun s => !(s.contains x)) = true ∧ x ≠ 42 ∧ x ≠ 41 ∧ x ≠ 40 := fun x => by revert x; exact all_bytes (by decide +kernel)
theorem not_sign {x : UInt8} (hx : isBlank x = true) {s : Bytes} (hs : x ∈ s) : signsL.contains s = false := by
  have h := (sep_facts x hx).2.2.2.1
  rw [List.all_eq_true] at h
  cases hc : signsL.contains s with
  | false => rfl
  | true =>
    have := h s (by simpa using hc)
    simp at this
    exact absurd hs this
theorem nextInName_sep {x : UInt8} {r : Bytes} (hx : inName x = false) (l : Bytes) : nextInName (l ++ x :: r) = nextInName l := by
  cases l with
  | nil => simp [nextInName, hx]
  | cons c l => rfl
theorem beg_sep {x : UInt8} {r : Bytes} (hx : x ≠ 42) : ∀ l : Bytes, l ≠ [] → begComment (l ++ x :: r) = begComment l
  | [], h => absurd rfl h
  | [c], _ => by
    simp only [List.cons_append, List.nil_append]
    unfold begComment
    split
    · rename_i h; injection h with _ h; injection h with h _; exact absurd h hx
    · split
      · rename_i h; simp at h
      · rfl
  | c :: d :: l, _ => by
    simp only [List.cons_append]
    unfold begComment
    split
    · rename_i h; injection h with h1 h; injection h with h2 _; subst h1 h2; rfl
    · rename_i h
      split
      · rename_i h2; injection h2 with h1 h2; injection h2 with h2 _; subst h1 h2; exact absurd rfl (h _)
      · rfl
theorem comLen_more : ∀ (l : Bytes) (d k : Nat) (r : Bytes), comLen d l = some k → comLen d (l ++ r) = some k
  | [], d, k, r, h => by simp [comLen] at h
  | [x], d, k, r, h => by simp [comLen] at h
  | x :: y :: l, d, k, r, h => by
    simp only [List.cons_append]
    rw [comLen] at h ⊢
    split
    · rename_i hc
      rw [if_pos hc] at h
      simp at h
      obtain ⟨j, hj, rfl⟩ := h
      rw [comLen_more l _ _ r hj]
      rfl
    · rename_i hc
      rw [if_neg hc] at h
      split
      · rename_i hd
        rw [if_pos hd] at h
        split
        · rename_i he
          rw [if_pos he] at h
          exact h
        · rename_i he
          rw [if_neg he] at h
          simp at h
          obtain ⟨j, hj, rfl⟩ := h
          rw [comLen_more l _ _ r hj]
          rfl
      · rename_i hd
        rw [if_neg hd] at h
        simp at h
        obtain ⟨j, hj, rfl⟩ := h
        have := comLen_more (y :: l) _ _ r hj
        rw [List.cons_append] at this
        rw [this]
        rfl
theorem comLen_cut : ∀ (l : Bytes) (d k m : Nat), comLen d l = some k → k ≤ m → comLen d (l.take m) = some k
  | [], d, k, m, h, _ => by simp [comLen] at h
  | [x], d, k, m, h, _ => by simp [comLen] at h
  | x :: y :: l, d, k, m, h, hm => by
    have h2 := (comLen_bounds _ _ _ h).1
    obtain ⟨m, rfl⟩ : ∃ m', m = m' + 2 := ⟨m - 2, by omega⟩
    simp only [List.take_succ_cons]
    rw [comLen] at h ⊢
    split
    · rename_i hc
      rw [if_pos hc] at h
      simp at h
      obtain ⟨j, hj, rfl⟩ := h
      rw [comLen_cut l _ _ m hj (by omega)]
      rfl
    · rename_i hc
      rw [if_neg hc] at h
      split
      · rename_i hd
        rw [if_pos hd] at h
        split
        · rename_i he
          rw [if_pos he] at h
          exact h
        · rename_i he
          rw [if_neg he] at h
          simp at h
          obtain ⟨j, hj, rfl⟩ := h
          rw [comLen_cut l _ _ m hj (by omega)]
          rfl
      · rename_i hd
        rw [if_neg hd] at h
        simp at h
        obtain ⟨j, hj, rfl⟩ := h
        have := comLen_cut (y :: l) _ _ (m + 1) hj (by omega)
        rw [List.take_succ_cons] at this
        rw [this]
        rfl
theorem take_sep {x : UInt8} {r l : Bytes} (n : Nat) (hn : l.length < n) : x ∈ (l ++ x :: r).take n := by
  rw [List.take_append]
  refine List.mem_append_right _ ?_
  obtain ⟨k, hk⟩ : ∃ k, n - l.length = k + 1 := ⟨n - l.length - 1, by omega⟩
  rw [hk, List.take_succ_cons]
  exact List.mem_cons_self
theorem sign_sep {x : UInt8} {r : Bytes} (hx : isBlank x = true) (l : Bytes) (n : Nat) : (n ≤ (l ++ x :: r).length ∧ signsL.contains ((l ++ x :: r).take n) = true) ↔ (n ≤ l.length ∧ signsL.contains (l.take n) = true) := by
  by_cases hn : l.length < n
  · have := not_sign hx (take_sep (x := x) (r := r) (l := l) n hn)
    rw [this]
    simp
    omega
  · rw [List.take_append_of_le_length (by omega), List.length_append]
    constructor
    · rintro ⟨_, h⟩; exact ⟨by omega, h⟩
    · rintro ⟨_, h⟩; exact ⟨by omega, h⟩
theorem markLen_sep {x : UInt8} {r : Bytes} (hx : isBlank x = true) (l : Bytes) : markLen (l ++ x :: r) = markLen l := by
  unfold markLen
  simp only [sign_sep hx l]
theorem markLen_cut (l : Bytes) (k m : Nat) (h : markLen l = some k) (hk : k ≤ m) : markLen (l.take m) = some k := by
  have hs : ∀ n, n ≤ m → ((n ≤ (l.take m).length ∧ signsL.contains ((l.take m).take n) = true) ↔ (n ≤ l.length ∧ signsL.contains (l.take n) = true)) := fun n hn => by
    rw [List.take_take, Nat.min_eq_left hn, List.length_take]
    constructor
    · rintro ⟨_, h⟩; exact ⟨by omega, h⟩
    · rintro ⟨_, h⟩; exact ⟨by omega, h⟩
  have hb : ∀ n, m < n → ¬ (n ≤ (l.take m).length ∧ signsL.contains ((l.take m).take n) = true) := fun n hn => by
    rw [List.length_take]
    rintro ⟨h, _⟩
    omega
  unfold markLen at h ⊢
  split at h
  · rename_i h3
    injection h with h; subst h
    rw [if_pos ((hs 3 hk).2 h3)]
  · rename_i h3
    have n3 : ¬ (3 ≤ (l.take m).length ∧ signsL.contains ((l.take m).take 3) = true) := by
      by_cases hm : 3 ≤ m
      · exact fun h => h3 ((hs 3 hm).1 h)
      · exact hb 3 (by omega)
    rw [if_neg n3]
    split at h
    · rename_i h2
      injection h with h; subst h
      rw [if_pos ((hs 2 hk).2 h2)]
    · rename_i h2
      have n2 : ¬ (2 ≤ (l.take m).length ∧ signsL.contains ((l.take m).take 2) = true) := by
        by_cases hm : 2 ≤ m
        · exact fun h => h2 ((hs 2 hm).1 h)
        · exact hb 2 (by omega)
      rw [if_neg n2]
      split at h
      · rename_i h1
        injection h with h; subst h
        rw [if_pos ((hs 1 hk).2 h1)]
      · cases h
theorem head_sep {x : UInt8} {r : Bytes} {l : Bytes} (h : l ≠ []) : ∃ c l', l = c :: l' ∧ l ++ x :: r = c :: (l' ++ x :: r) := by
  cases l with
  | nil => exact absurd rfl h
  | cons c l' => exact ⟨c, l', rfl, rfl⟩
theorem wordStep_sep {x : UInt8} {r : Bytes} (hx : isBlank x = true) (l : Bytes) : wordStep (l ++ x :: r) = wordStep l := by
  unfold wordStep
  rw [takeWhile_sep _ _ _ (sep_facts x hx).1]
theorem symStep_sep {x : UInt8} {r : Bytes} (hx : isBlank x = true) (l : Bytes) : symStep (l ++ x :: r) = symStep l := by
  unfold symStep
  rw [takeWhile_sep _ _ _ (sep_facts x hx).2.2.1]
theorem numStep_sep {x : UInt8} {r : Bytes} (hx : isBlank x = true) (l : Bytes) : numStep (l ++ x :: r) = numStep l := by
  unfold numStep
  simp only
  rw [takeWhile_sep _ _ _ (sep_facts x hx).2.1, List.drop_append_of_le_length (takeWhile_len _ _), nextInName_sep (sep_facts x hx).1]
theorem markStep_sep {x : UInt8} {r : Bytes} (hx : isBlank x = true) (l : Bytes) (hl : l ≠ []) (h : markStep l ≠ .bad ∨ begComment l = false) : markStep (l ++ x :: r) = markStep l := by
  unfold markStep at h ⊢
  rw [beg_sep (sep_facts x hx).2.2.2.2.1 l hl, markLen_sep hx]
  cases hb : begComment l with
  | true =>
    rw [hb] at h
    simp only [if_true] at h ⊢
    cases hc : comLen 0 l with
    | some k => rw [comLen_more _ _ _ _ hc]
    | none =>
      rw [hc] at h
      rcases h with h | h
      · exact absurd rfl h
      · cases h
  | false =>
    simp only [Bool.false_eq_true, if_false]
    cases hm : markLen l with
    | none => rfl
    | some k =>
      have := markLen_bounds l k hm
      simp only
      rw [List.take_append_of_le_length this.2.1]
/-- A STEP WITH A BLANK, AND ANYTHING, BEHIND THE TEXT. -/
theorem step_sep {x : UInt8} {r : Bytes} (hx : isBlank x = true) (l : Bytes) (hl : l ≠ []) (h : step l ≠ .bad ∨ begComment l = false) : step (l ++ x :: r) = step l := by
  obtain ⟨c, l', rfl, e⟩ := head_sep (x := x) (r := r) hl
  have e1 : step (c :: l' ++ x :: r) = if cls c = 1 then .skip else if cls c = 2 then wordStep (c :: l' ++ x :: r) else if cls c = 3 then numStep (c :: l' ++ x :: r)
    else if cls c = 4 then symStep (c :: l' ++ x :: r) else if cls c = 5 then markStep (c :: l' ++ x :: r) else .bad := rfl
  have e2 : step (c :: l') = if cls c = 1 then .skip else if cls c = 2 then wordStep (c :: l') else if cls c = 3 then numStep (c :: l')
    else if cls c = 4 then symStep (c :: l') else if cls c = 5 then markStep (c :: l') else .bad := rfl
  rw [e1, wordStep_sep hx, numStep_sep hx, symStep_sep hx]
  rw [e2] at h ⊢
  by_cases h5 : cls c = 5
  · have n1 : ¬ cls c = 1 := by omega
    have n2 : ¬ cls c = 2 := by omega
    have n3 : ¬ cls c = 3 := by omega
    have n4 : ¬ cls c = 4 := by omega
    simp only [if_neg n1, if_neg n2, if_neg n3, if_neg n4, if_pos h5] at h ⊢
    exact markStep_sep hx _ hl h
  · simp only [if_neg h5]
theorem beg_cut (l : Bytes) (m : Nat) (hm : 2 ≤ m ∨ begComment l = false) : begComment (l.take m) = begComment l := by
  match l, m with
  | [], m => simp
  | [c], 0 => simp [begComment]
  | [c], m + 1 => simp
  | c :: d :: l, 0 =>
    rcases hm with hm | hm
    · omega
    · rw [hm]; rfl
  | c :: d :: l, 1 =>
    rcases hm with hm | hm
    · omega
    · rw [hm]
      show begComment [c] = false
      unfold begComment
      split
      · rename_i h; simp at h
      · rfl
  | c :: d :: l, m + 2 =>
    simp only [List.take_succ_cons]
    unfold begComment
    split
    · rename_i h; injection h with h1 h; injection h with h2 _; subst h1 h2; rfl
    · rename_i h
      split
      · rename_i h2; injection h2 with h1 h2; injection h2 with h2 _; subst h1 h2; exact absurd rfl (h _)
      · rfl
theorem nextInName_cut (l : Bytes) (k m : Nat) (hk : k ≤ m) (h : nextInName (l.drop k) = false) : nextInName ((l.take m).drop k) = false := by
  rw [List.drop_take]
  cases hd : l.drop k with
  | nil => simp [nextInName]
  | cons c r =>
    rw [hd] at h
    cases hj : m - k with
    | zero => rfl
    | succ j => exact h
/-- how many bytes a step takes -/
def Step.len : Step → Nat
  | .skip => 1
  | .comm k => k
  | .tok _ _ _ k => k
  | .bad => 0
/-- A STEP WITH THE TEXT CUT OFF BEHIND WHAT IT TOOK. -/
theorem step_cut (l : Bytes) (m : Nat) (hb : step l ≠ .bad) (hm : (step l).len ≤ m) : step (l.take m) = step l := by
  cases l with
  | nil => exact absurd rfl hb
  | cons c r =>
    have hpos : 1 ≤ m := by
      cases hs : step (c :: r) with
      | skip => rw [hs] at hm; exact hm
      | comm k => have := step_comm hs; rw [hs] at hm; simp only [Step.len] at hm; omega
      | tok kd n b k => have := step_tok hs; rw [hs] at hm; simp only [Step.len] at hm; omega
      | bad => exact absurd hs hb
    obtain ⟨m, rfl⟩ : ∃ j, m = j + 1 := ⟨m - 1, by omega⟩
    have e2 : step (c :: r) = if cls c = 1 then .skip else if cls c = 2 then wordStep (c :: r) else if cls c = 3 then numStep (c :: r)
      else if cls c = 4 then symStep (c :: r) else if cls c = 5 then markStep (c :: r) else .bad := rfl
    have e1 : step ((c :: r).take (m + 1)) = if cls c = 1 then .skip else if cls c = 2 then wordStep ((c :: r).take (m + 1)) else if cls c = 3 then numStep ((c :: r).take (m + 1))
      else if cls c = 4 then symStep ((c :: r).take (m + 1)) else if cls c = 5 then markStep ((c :: r).take (m + 1)) else .bad := rfl
    rw [e2] at hb hm
    rw [e1, e2]
    split at hb
    · rename_i h1; rw [if_pos h1, if_pos h1]
    · rename_i h1
      rw [if_neg h1] at hm
      rw [if_neg h1, if_neg h1]
      split at hb
      · rename_i h2
        rw [if_pos h2] at hm
        rw [if_pos h2, if_pos h2]
        unfold wordStep at hb hm ⊢
        simp only at hb hm ⊢
        split at hb
        · exact absurd rfl hb
        · rename_i hl
          rw [if_neg hl] at hm
          rw [takeWhile_cut _ _ _ hm]
      · rename_i h2
        rw [if_neg h2] at hm
        rw [if_neg h2, if_neg h2]
        split at hb
        · rename_i h3
          rw [if_pos h3] at hm
          rw [if_pos h3, if_pos h3]
          unfold numStep at hb hm ⊢
          simp only at hb hm ⊢
          split at hb
          · exact absurd rfl hb
          · rename_i hl
            rw [if_neg hl] at hm
            split at hb
            · exact absurd rfl hb
            · rename_i hn
              rw [if_neg hn] at hm
              have hm2 : ((c :: r).takeWhile isDigit).length ≤ m + 1 := hm
              rw [takeWhile_cut _ _ _ hm2, if_neg hl, if_neg hl, if_neg hn, if_neg (by rw [nextInName_cut _ _ _ hm2 (by simpa using hn)]; simp)]
        · rename_i h3
          rw [if_neg h3] at hm
          rw [if_neg h3, if_neg h3]
          split at hb
          · rename_i h4
            rw [if_pos h4] at hm
            rw [if_pos h4, if_pos h4]
            unfold symStep at hb hm ⊢
            simp only at hb hm ⊢
            split at hb
            · exact absurd rfl hb
            · rename_i hl
              rw [if_neg hl] at hm
              rw [takeWhile_cut _ _ _ hm]
          · rename_i h4
            rw [if_neg h4] at hm
            rw [if_neg h4, if_neg h4]
            split at hb
            · rename_i h5
              rw [if_pos h5] at hm
              rw [if_pos h5, if_pos h5]
              unfold markStep at hb hm ⊢
              cases hbc : begComment (c :: r) with
              | true =>
                rw [hbc] at hb hm
                simp only [if_true] at hb hm
                cases hc : comLen 0 (c :: r) with
                | none => rw [hc] at hb; exact absurd rfl hb
                | some k =>
                  rw [hc] at hm
                  have hk : k ≤ m + 1 := hm
                  have h2 := (comLen_bounds _ _ _ hc).1
                  rw [beg_cut _ _ (.inl (by omega)), hbc, comLen_cut _ _ _ _ hc hk, if_pos rfl, if_pos rfl]
              | false =>
                rw [hbc] at hb hm
                simp only [Bool.false_eq_true, if_false] at hb hm
                cases hc : markLen (c :: r) with
                | none => rw [hc] at hb; exact absurd rfl hb
                | some k =>
                  rw [hc] at hm
                  have hk : k ≤ m + 1 := hm
                  rw [beg_cut _ _ (.inr hbc), hbc, markLen_cut _ _ _ hc hk]
                  simp only [Bool.false_eq_true, if_false]
                  rw [List.take_take, Nat.min_eq_left hk]
            · exact absurd rfl hb
end Go.Proofs.YtjcocblohiglbaaGreatDoor.Lex
/- Runs with something behind the text, at another place, cut off. Conditions: none. -/
namespace Go.Proofs.YtjcocblohiglbaaGreatDoor.Lex
set_option linter.unusedVariables false
set_option linter.unusedSimpArgs false

theorem Runs.sep {x : UInt8} {r : Bytes} (hx : isBlank x = true) {l : Bytes} {p : Nat} {ts : List Tok} {cs : List (Nat × Nat)} {l' : Bytes} {p' : Nat} (h : Runs l p ts cs l' p') : Runs (l ++ x :: r) p ts cs (l' ++ x :: r) p' := by
  induction h with
  | nil l p => exact .nil _ _
  | skip h hr ih =>
    have h1 := step_skip_len h
    refine .skip ((step_sep hx _ (step_ne (by rw [h]; simp)) (.inl (by rw [h]; simp))).trans h) ?_
    rw [List.drop_append_of_le_length h1]
    exact ih
  | comm h hr ih =>
    have h1 := step_comm h
    refine .comm ((step_sep hx _ (step_ne (by rw [h]; simp)) (.inl (by rw [h]; simp))).trans h) ?_
    rw [List.drop_append_of_le_length h1.2]
    exact ih
  | tok h hr ih =>
    have h1 := step_tok h
    refine .tok ((step_sep hx _ (step_ne (by rw [h]; simp)) (.inl (by rw [h]; simp))).trans h) ?_
    rw [List.drop_append_of_le_length h1.2]
    exact ih
def Tok.by (d : Nat) (t : Tok) : Tok := ⟨t.kind, t.n, t.s, t.b + d, t.e + d⟩
theorem Runs.cut {l : Bytes} {p : Nat} {ts : List Tok} {cs : List (Nat × Nat)} {l' : Bytes} {p' : Nat} (h : Runs l p ts cs l' p') : ∀ m, p' = p + m → Runs (l.take m) p ts cs [] p' := by
  induction h with
  | nil l p =>
    intro m hm
    obtain rfl : m = 0 := by omega
    rw [List.take_zero]
    exact .nil _ _
  | skip h hr ih =>
    intro m hm
    obtain ⟨k, hk, _, _⟩ := hr.place
    refine .skip ((step_cut _ m (by rw [h]; simp) (by rw [h]; show 1 ≤ m; omega)).trans h) ?_
    rw [List.drop_take]
    exact ih _ (by omega)
  | comm h hr ih =>
    intro m hm
    obtain ⟨k, hk, _, _⟩ := hr.place
    refine .comm ((step_cut _ m (by rw [h]; simp) (by rw [h]; simp only [Step.len]; omega)).trans h) ?_
    rw [List.drop_take]
    exact ih _ (by omega)
  | tok h hr ih =>
    intro m hm
    obtain ⟨k, hk, _, _⟩ := hr.place
    refine .tok ((step_cut _ m (by rw [h]; simp) (by rw [h]; simp only [Step.len]; omega)).trans h) ?_
    rw [List.drop_take]
    exact ih _ (by omega)
end Go.Proofs.YtjcocblohiglbaaGreatDoor.Lex
