/- Parts LA, LB, LC, LD, LE of the walks of package lex, in one text. -/
import Derived.Test.YtjcocblohiglbaaGreatDoorProg
import Derived.Test.YtjcocblohiglbaaGreatDoorMA
import Derived.Test.YtjcocblohiglbaaGreatDoorShelf
import Derived.WalkKit
import Derived.WalkSpells
import Derived.WalkLawsBesides
import Derived.Lib.Hide
import Derived.BigQuiet
import Derived.Deep.QuietTactic
import Derived.Outline
import Derived.BigRegion
import Derived.RegionTactic
import Derived.Deep.RegionLaw
import Derived.Deep.AppendLies
import Derived.Maps.Own
import Derived.Maps.OwnOps
import Derived.Maps.Views
import Derived.Recover
import Derived.StringKeys
import Derived.Lib.SmallJoins
import Derived.Lib.AtoiErrMem
import Derived.Lib.AppendIntMem
import Derived.RegionCalls
import Derived.Deep.RegionWith
/- The walks of the small functions of package lex: the class of a byte, the tests that are handed over as function values. Conditions: none. -/
namespace Go.Proofs.YtjcocblohiglbaaGreatDoor
open Go.RowKit Go.Shelf Go.Lib
set_option linter.unusedVariables false
set_option linter.unusedSimpArgs false

theorem all_bytes {p : UInt8 → Prop} [∀ c, Decidable (p c)] (h : ∀ n : Fin 256, p (UInt8.ofFin n)) (c : UInt8) : p c := by
  have := h c.toFin
  simpa using this
theorem cls_def (c : UInt8) : Lex.cls c = if 0 ≤ Lib.indexByte [32, 9, 10, 13] c then 1 else if (97 ≤ (c.toNat : Int) ∧ (c.toNat : Int) ≤ 122) ∨ (65 ≤ (c.toNat : Int) ∧ (c.toNat : Int) ≤ 90) then 2
    else if 48 ≤ (c.toNat : Int) ∧ (c.toNat : Int) ≤ 57 then 3 else if 0 ≤ Lib.indexByte [35, 36, 37, 38, 42, 43, 45, 46, 47, 60, 61, 62, 64, 92, 94, 126] c then 4
    else if 0 ≤ Lib.indexByte [40, 41, 91, 93, 123, 125, 44, 59, 58, 63, 33, 95, 124] c then 5 else 0 := by
  revert c
  exact all_bytes (by decide +kernel)
theorem inName_def (c : UInt8) : Lex.inName c = (((Lex.cls c : Nat) : Int) == 2 || ((Lex.cls c : Nat) : Int) == 3 || (c.toNat : Int) == 39) := by
  revert c
  exact all_bytes (by decide +kernel)
theorem isDigit_def (c : UInt8) : Lex.isDigit c = (((Lex.cls c : Nat) : Int) == 3) := by
  revert c
  exact all_bytes (by decide +kernel)
theorem isSym_def (c : UInt8) : Lex.isSym c = (((Lex.cls c : Nat) : Int) == 4) := by
  revert c
  exact all_bytes (by decide +kernel)

theorem ib_any (s : ByteArray) (c : UInt8) (w : World) :
    Calls Tryz.prog 97 #[.string s, .int .u8 (c.toNat : Int)] w fun e w' => e = .returned (.int .i64 (Lib.indexByte s.data.toList c)) ∧ w = w' := by
  refine (Tryz.strings_IndexByte s (c.toNat : Int) w).mono ?_
  rintro e w' ⟨rfl, rfl⟩
  exact ⟨by simp, rfl⟩

theorem ret_int {k : IntKind} {a b : Int} (h : a = b) : Ending.returned (.int k a) = .returned (.int k b) := by rw [h]

set_option maxHeartbeats 400000 in
theorem class_any (c : UInt8) (w : World) :
    Calls Tryz.prog 84 #[.int .u8 (c.toNat : Int)] w fun e w' => e = .returned (.int .i64 (Lex.cls c : Nat)) ∧ w = w' := by
  go_enter Tryz.func84, Tryz.ntmps84
  go_wp2_with (go_at_call 97; refine (ib_any _ c _).mono ?_; rintro e w' ⟨rfl, rfl⟩)
  all_goals
    go_ret
    refine ⟨ret_int ?_, rfl⟩
    rw [cls_def]
    generalize Lib.indexByte [32, 9, 10, 13] c = x0 at *
    generalize Lib.indexByte [35, 36, 37, 38, 42, 43, 45, 46, 47, 60, 61, 62, 64, 92, 94, 126] c = x1 at *
    generalize Lib.indexByte [40, 41, 91, 93, 123, 125, 44, 59, 58, 63, 33, 95, 124] c = x2 at *
    generalize (c.toNat : Int) = n at *
    (repeat' split) <;> omega

/-- What a function value that is a test of a byte answers. -/
def Tests (f : Nat) (p : UInt8 → Bool) : Prop :=
  ∀ (c : UInt8) (w : World), Calls Tryz.prog f #[.int .u8 (c.toNat : Int)] w fun e w' => e = .returned (.bool (p c)) ∧ w = w'

theorem ret_bool {a b : Bool} (h : a = b) : Ending.returned (.bool a) = .returned (.bool b) := by rw [h]

set_option maxHeartbeats 400000 in
theorem inName_tests : Tests 113 Lex.inName := by
  intro c w
  go_enter Tryz.func113, Tryz.ntmps113
  go_wp2_with (go_at_call 84; refine (class_any c _).mono ?_; rintro e w' ⟨rfl, rfl⟩)
  all_goals
    go_ret
    exact ⟨ret_bool (by first | (rw [inName_def]; done) | (rw [inName_def]; simp [*]; done) | (rw [inName_def]; simp_all)), rfl⟩

set_option maxHeartbeats 400000 in
theorem digit_tests : Tests 115 Lex.isDigit := by
  intro c w
  go_enter Tryz.func115, Tryz.ntmps115
  go_wp2_with (go_at_call 84; refine (class_any c _).mono ?_; rintro e w' ⟨rfl, rfl⟩)
  all_goals
    go_ret
    exact ⟨ret_bool (by first | (rw [isDigit_def]; done) | (rw [isDigit_def]; simp [*]; done) | (rw [isDigit_def]; simp_all)), rfl⟩

set_option maxHeartbeats 400000 in
theorem sym_tests : Tests 117 Lex.isSym := by
  intro c w
  go_enter Tryz.func117, Tryz.ntmps117
  go_wp2_with (go_at_call 84; refine (class_any c _).mono ?_; rintro e w' ⟨rfl, rfl⟩)
  all_goals
    go_ret
    exact ⟨ret_bool (by first | (rw [isSym_def]; done) | (rw [isSym_def]; simp [*]; done) | (rw [isSym_def]; simp_all)), rfl⟩

end Go.Proofs.YtjcocblohiglbaaGreatDoor
/- The walk of (*scanner).while: it returns the byte behind those that pass the test. -/
namespace Go.Proofs.YtjcocblohiglbaaGreatDoor
open Go.RowKit
set_option linter.unusedVariables false
set_option linter.unusedSimpArgs false

/-- How many bytes from `i` on pass. -/
def run (p : UInt8 → Bool) (s : ByteArray) (i : Nat) : Nat := ((s.data.toList.drop i).takeWhile p).length
theorem run_step (p : UInt8 → Bool) (s : ByteArray) (k : Nat) (h : k < s.size) : run p s k = if p s[k] then 1 + run p s (k + 1) else 0 := by
  unfold run
  have h' : k < s.data.toList.length := by simpa using h
  rw [List.drop_eq_getElem_cons h', List.takeWhile_cons]
  have e : s.data.toList[k] = s[k] := rfl
  rw [e]
  split
  · simp; omega
  · rfl
theorem run_end (p : UInt8 → Bool) (s : ByteArray) (k : Nat) (h : s.size ≤ k) : run p s k = 0 := by
  unfold run
  rw [List.drop_of_length_le (by simpa using h)]
  rfl
theorem run_le (p : UInt8 → Bool) (s : ByteArray) (k : Nat) (h : k ≤ s.size) : k + run p s k ≤ s.size := by
  unfold run
  have := (List.takeWhile_sublist p (l := s.data.toList.drop k)).length_le
  simp at this
  omega

/-- The run from k on ends where the run from i on ends. -/
def RunAt (p : UInt8 → Bool) (s : ByteArray) (i k : Nat) : Prop := k + run p s k = i + run p s i

theorem RunAt.step {p : UInt8 → Bool} {s : ByteArray} {i k : Nat} (h : RunAt p s i k) (hk : k < s.size) (hp : p s[k] = true) : RunAt p s i (k + 1) := by
  unfold RunAt at *
  rw [run_step p s k hk, if_pos hp] at h
  omega
theorem RunAt.stop {p : UInt8 → Bool} {s : ByteArray} {i k : Nat} (h : RunAt p s i k) (hk : k < s.size) (hp : p s[k] = false) : (k : Int) = ((i + run p s i : Nat) : Int) := by
  unfold RunAt at *
  rw [run_step p s k hk, if_neg (by simp [hp])] at h
  omega
theorem RunAt.ends {p : UInt8 → Bool} {s : ByteArray} {i k : Nat} (h : RunAt p s i k) (hk : ¬ k < s.size) : (k : Int) = ((i + run p s i : Nat) : Int) := by
  unfold RunAt at *
  rw [run_end p s k (by omega)] at h
  omega

set_option maxRecDepth 100000 in
set_option maxHeartbeats 400000 in
theorem while_any (f : Nat) (p : UInt8 → Bool) (hf : Tests f p) (he : ∀ args w, (callFunc f args).run Tryz.prog w = .ok (.enter f args) w) (g : Nat) (s : ByteArray) (i : Nat) (w : World) (hs : s.size ≤ 140737488351232) (hi : i ≤ s.size)
    (h0 : w.cell? ⟨g, 0, none⟩ = some (.string s)) (h1 : w.cell? ⟨g, 1, none⟩ = some (.int .i64 (i : Int))) :
    Calls Tryz.prog 112 #[.pointer (some ⟨g, 0, none⟩), .func (.func f) #[] #[]] w fun e w' => e = .returned (.int .i64 ((i + run p s i : Nat) : Int)) ∧ w = w' := by
  have hE : RunAt p s i i := rfl
  have Hf := Lib.hid hf
  clear hf
  go_enter Tryz.func112, Tryz.ntmps112
  go_wp2_with fail
  go_loop [5] (fun t => ∃ k : Nat, k ≤ s.size ∧ t = .int .i64 (k : Int) ∧ RunAt p s i k) (fun t => s.size - (intOf t).toNat)
  case atStart => exact ⟨i, hi, rfl, hE⟩
  case round =>
    obtain ⟨k, hk, rfl, hrun⟩ := hrel
    by_cases hlt : k < s.size
    · cases hp : p s[k] with
      | true =>
        go_wp2_with (go_at_fn f; refine (Hf _ _).mono ?_; rintro e w' ⟨rfl, rfl⟩)
        go_round
        case rel => exact ⟨k + 1, by omega, by go_num, hrun.step hlt hp⟩
        case measure => simp [intOf]; omega
      | false =>
        go_wp2_with (go_at_fn f; refine (Hf _ _).mono ?_; rintro e w' ⟨rfl, rfl⟩)
        go_ret
        exact ⟨ret_int (hrun.stop hlt hp), rfl⟩
    · go_wp2_with fail
      go_ret
      exact ⟨ret_int (hrun.ends hlt), rfl⟩
end Go.Proofs.YtjcocblohiglbaaGreatDoor
/- The walk of (*scanner).take: a token is added. -/
namespace Go.Proofs.YtjcocblohiglbaaGreatDoor
open Go.RowKit
set_option linter.unusedVariables false
set_option linter.unusedSimpArgs false

theorem info_tok : (Tryz.prog.info? 84).map (fun i => (i.zero, i.size, i.bytes)) = some (some (.agg #[.int .i64 0, .int .i64 0, .string ⟨#[]⟩, .int .i64 0, .int .i64 0]), 5, 48) := by kernel_rfl

/-- A block of the scanner. -/
def ScBlk (w : World) (g : Nat) (s : ByteArray) (p : Int) (wm sm : Nat) (ov cv : Value) : Prop :=
  w.heap[g]? = some (.cells #[.string s, .int .i64 p, .map (some wm), .map (some sm), ov, cv] 126 (0, 0))
section
variable {w W : World} {g : Nat} {s : ByteArray} {p : Int} {wm sm : Nat} {ov cv : Value}
theorem ScBlk.lt (h : ScBlk w g s p wm sm ov cv) : g < w.heap.size := by
  unfold ScBlk at h
  exact (Array.getElem?_eq_some_iff.1 h).1
theorem ScBlk.c0 (h : ScBlk w g s p wm sm ov cv) : w.cell? ⟨g, 0, none⟩ = some (.string s) := by rw [cell_of_row w g 0 _ _ _ h]; rfl
theorem ScBlk.c1 (h : ScBlk w g s p wm sm ov cv) : w.cell? ⟨g, 1, none⟩ = some (.int .i64 p) := by rw [cell_of_row w g 1 _ _ _ h]; rfl
theorem ScBlk.c2 (h : ScBlk w g s p wm sm ov cv) : w.cell? ⟨g, 2, none⟩ = some (.map (some wm)) := by rw [cell_of_row w g 2 _ _ _ h]; rfl
theorem ScBlk.c3 (h : ScBlk w g s p wm sm ov cv) : w.cell? ⟨g, 3, none⟩ = some (.map (some sm)) := by rw [cell_of_row w g 3 _ _ _ h]; rfl
theorem ScBlk.c4 (h : ScBlk w g s p wm sm ov cv) : w.cell? ⟨g, 4, none⟩ = some ov := by rw [cell_of_row w g 4 _ _ _ h]; rfl
theorem ScBlk.c5 (h : ScBlk w g s p wm sm ov cv) : w.cell? ⟨g, 5, none⟩ = some cv := by rw [cell_of_row w g 5 _ _ _ h]; rfl
theorem ScBlk.fr (h : ScBlk w g s p wm sm ov cv) (j : Nat) : w.frozen? ⟨g, j, none⟩ = false := by
  unfold ScBlk at h
  simp [World.frozen?, h]
theorem ScBlk.move (h : ScBlk w g s p wm sm ov cv) (hb : W.heap[g]? = w.heap[g]?) : ScBlk W g s p wm sm ov cv := by
  unfold ScBlk at *
  rw [hb, h]
theorem ScBlk.below (h : ScBlk w g s p wm sm ov cv) (hb : Below w.heap.size w W) : ScBlk W g s p wm sm ov cv := h.move (hb.block g h.lt)
theorem ScBlk.set4 (h : ScBlk w g s p wm sm ov cv) (v : Value) : ScBlk (w.setCell ⟨g, 4, none⟩ v) g s p wm sm v cv := by
  unfold ScBlk at *
  simp [World.setCell, h, Array.getElem?_modify]
theorem ScBlk.set1 (h : ScBlk w g s p wm sm ov cv) (q : Int) : ScBlk (w.setCell ⟨g, 1, none⟩ (.int .i64 q)) g s q wm sm ov cv := by
  unfold ScBlk at *
  simp [World.setCell, h, Array.getElem?_modify]
theorem ScBlk.set5 (h : ScBlk w g s p wm sm ov cv) (v : Value) : ScBlk (w.setCell ⟨g, 5, none⟩ v) g s p wm sm ov v := by
  unfold ScBlk at *
  simp [World.setCell, h, Array.getElem?_modify]
end

theorem own_below {w W : World} {base : Nat} {e : TypeId} {size n : Nat} {v : Value} {xs : List Value} (h : w.ownsRow base e size v n xs) (hb : Below w.heap.size w W) : W.ownsRow base e size v n xs := by
  refine ⟨h.1, ?_⟩
  rcases h.2 with h2 | ⟨gg, cap, cur, hv, hg, hh, r⟩
  · exact .inl h2
  · exact .inr ⟨gg, cap, cur, hv, hg, (hb.block gg (Array.getElem?_eq_some_iff.1 hh).1).trans hh, r⟩
theorem below_alloc {w W : World} (h : Below w.heap.size w W) (o : Obj) : Below w.heap.size w (W.alloc o) := h.alloc h.size o

/-- What has turned from w to w': new blocks, and of the elder ones those alone that are not ok. -/
structure Chg (w w' : World) (ok : Nat → Prop) : Prop where
  os : w'.os = w.os
  tape : w'.tape = w.tape
  output : w'.output = w.output
  size : w.heap.size ≤ w'.heap.size
  block : ∀ k, k < w.heap.size → ok k → w'.heap[k]? = w.heap[k]?
theorem Chg.of_below {w W : World} (h : Below w.heap.size w W) (ok : Nat → Prop) : Chg w W ok := ⟨h.os, h.tape, h.output, h.size, fun k hk _ => h.block k hk⟩
theorem Chg.mono {w W : World} {ok ok' : Nat → Prop} (h : Chg w W ok) (hk : ∀ k, k < w.heap.size → ok' k → ok k) : Chg w W ok' := ⟨h.os, h.tape, h.output, h.size, fun k hlt ho => h.block k hlt (hk k hlt ho)⟩
theorem Chg.trans {w W U : World} {ok : Nat → Prop} (h : Chg w W ok) (k : Chg W U ok) : Chg w U ok :=
  ⟨k.os.trans h.os, k.tape.trans h.tape, k.output.trans h.output, Nat.le_trans h.size k.size, fun i hi ho => (k.block i (Nat.lt_of_lt_of_le hi h.size) ho).trans (h.block i hi ho)⟩
theorem Chg.below {w W : World} {ok : Nat → Prop} (h : Chg w W ok) {B : Nat} (hB : B ≤ w.heap.size) (hk : ∀ k, k < B → ok k) : Below B w W :=
  ⟨h.os, h.tape, h.output, h.size, fun k hlt => h.block k (by omega) (hk k hlt)⟩
theorem Chg.of_grown {w W : World} {row : Option Nat} (h : w.grownBy W row) : Chg w W (fun k => some k ≠ row) := ⟨h.os, h.tape, h.output, h.size, fun k hk ho => h.block k hk ho⟩
theorem Chg.of_setCell (w : World) (p : Addr) (v : Value) : Chg w (w.setCell p v) (fun k => k ≠ p.block) := ⟨rfl, rfl, rfl, by simp [World.setCell], fun k _ ho => Below.heap_setCell _ _ _ _ ho⟩
theorem Chg.of_drew {w : World} (ok : Nat → Prop) : Chg w w.drew ok := ⟨rfl, rfl, rfl, Nat.le_refl _, fun _ _ _ => rfl⟩

theorem own_ne {w : World} {base : Nat} {e t : TypeId} {size n : Nat} {v : Value} {xs : List Value} (h : w.ownsRow base e size v n xs) {g : Nat} {cs : Array Value} {f : Nat × Nat} (hb : w.heap[g]? = some (.cells cs t f)) (ht : e ≠ t) : v.ownBlock ≠ some g := by
  intro hk
  rcases h.2 with ⟨rfl, _⟩ | ⟨gg, cap, cur, rfl, hg, hh, r⟩
  · simp [Value.ownBlock] at hk
  · have : gg = g := by simpa [Value.ownBlock] using hk
    subst this
    rw [hh] at hb
    injection hb with hb
    injection hb with _ hb
    exact ht hb

/-- The scanner's block and its row of tokens, behind a take. -/
def Took (B : Nat) (w w' : World) (g : Nat) (s : ByteArray) (e : Int) (wm sm : Nat) (ov cv : Value) (m : Nat) (xs : List Value) : Prop :=
  ∃ ov', ScBlk w' g s e wm sm ov' cv ∧ w'.ownsRow B 84 5 ov' m xs ∧ Chg w w' (fun k => k ≠ g ∧ ov.ownBlock ≠ some k)

theorem own_setCell {w : World} {base : Nat} {e : TypeId} {size n : Nat} {v : Value} {xs : List Value} (h : w.ownsRow base e size v n xs) {p : Addr} (hp : v.ownBlock ≠ some p.block) (u : Value) : (w.setCell p u).ownsRow base e size v n xs := by
  refine ⟨h.1, ?_⟩
  rcases h.2 with h2 | ⟨gg, cap, cur, rfl, hg, hh, r⟩
  · exact .inl h2
  · exact .inr ⟨gg, cap, cur, rfl, hg, (Below.heap_setCell w p u gg (fun e => hp (by rw [← e]; rfl))).trans hh, r⟩
theorem took_close {B : Nat} {w w1 : World} {g : Nat} {s : ByteArray} {p e : Int} {wm sm : Nat} {ov cv v : Value} {m : Nat} {xs : List Value} (h3 : ScBlk w1 g s p wm sm ov cv)
    (hown : w1.ownsRow B 84 5 v m xs) (hC : Chg w w1 (fun k => k ≠ g ∧ ov.ownBlock ≠ some k)) :
    Took B w ((w1.setCell ⟨g, 4, none⟩ v).setCell ⟨g, 1, none⟩ (.int .i64 e)) g s e wm sm ov cv m xs := by
  have hne : v.ownBlock ≠ some g := own_ne hown h3 (by decide)
  refine ⟨v, (h3.set4 v).set1 e, own_setCell (own_setCell hown hne _) hne _, ?_⟩
  exact (hC.trans ((Chg.of_setCell _ _ _).mono (fun k _ hk => hk.1))).trans ((Chg.of_setCell _ _ _).mono (fun k _ hk => hk.1))
theorem took_chg {w W1 W2 w1 : World} {g : Nat} {ov : Value} (h1 : Chg w W1 (fun k => k ≠ g ∧ ov.ownBlock ≠ some k)) (h2 : Below W1.heap.size W1 W2) (h3 : W2.grownBy w1 ov.ownBlock) : Chg w w1 (fun k => k ≠ g ∧ ov.ownBlock ≠ some k) :=
  (h1.trans (Chg.of_below h2 _)).trans ((Chg.of_grown h3).mono (fun k _ hk e => hk.2 e.symm))

set_option maxRecDepth 100000 in
set_option maxHeartbeats 1000000 in
theorem take_text (B : Nat) (kd n p e : Int) (hkd : (kd == 3) = false) (g wm sm : Nat) (s : ByteArray) (ov cv : Value) (m : Nat) (xs : List Value) (w : World) (hs : s.size ≤ 140737488351232) (hp : 0 ≤ p) (hpe : p ≤ e) (hes : e ≤ s.size)
    (hb : ScBlk w g s p wm sm ov cv) (ho : w.ownsRow B 84 5 ov m xs) (hBg : B ≤ g) (hm : m ≤ 200000) :
    Calls Tryz.prog 114 #[.pointer (some ⟨g, 0, none⟩), .int .i64 kd, .int .i64 n, .int .i64 e] w fun e' w' => e' = .returned (.tuple #[]) ∧
      Took B w w' g s e wm sm ov cv (m + 1) (xs ++ [.int .i64 kd, .int .i64 n, .string (s.extract p.toNat e.toNat), .int .i64 p, .int .i64 e]) := by
  have h0 := hb.c0; have h1 := hb.c1; have h4 := hb.c4
  have f1 := hb.fr 1; have f4 := hb.fr 4
  have a0 : ∀ o, (w.alloc o).cell? ⟨g, 0, none⟩ = some (.string s) := fun o => (hb.below ((Below.refl _ _).alloc (Nat.le_refl _) o)).c0
  have a1 : ∀ o, (w.alloc o).cell? ⟨g, 1, none⟩ = some (.int .i64 p) := fun o => (hb.below ((Below.refl _ _).alloc (Nat.le_refl _) o)).c1
  have Hb := Lib.hid hb
  have Ho := Lib.hid ho
  have Hne := Lib.hid (own_ne ho hb (by decide))
  obtain ⟨i0, hi, hza, hzb, hzc⟩ := info_parts info_tok
  clear hb ho
  go_enter Tryz.func114, Tryz.ntmps114
  go_wp2_with fail
  go_region
  go_wp2_with fail
  generalize hW : ((w.alloc (Obj.cells #[Value.int IntKind.i64 kd, Value.int IntKind.i64 n, Value.string (s.extract p.toNat e.toNat), Value.int IntKind.i64 p, Value.int IntKind.i64 e] 84)).drew) = W1
  have hB1 : Below w.heap.size w W1 := hW ▸ (below_alloc (Below.refl _ _) _).drew
  have hb1 := Hb.below hB1
  have HC1 := Lib.hid (Chg.of_below hB1 (fun k => k ≠ g ∧ ov.ownBlock ≠ some k))
  have Ho1 := Lib.hid (own_below Ho hB1)
  have hT : W1.heap[w.heap.size]? = some (Obj.cells #[Value.int IntKind.i64 kd, Value.int IntKind.i64 n, Value.string (s.extract p.toNat e.toNat), Value.int IntKind.i64 p, Value.int IntKind.i64 e] 84 (0, 0)) := by
    rw [← hW]; exact Array.getElem?_push_size
  have hz1 : w.heap.size < W1.heap.size := by rw [← hW]; exact (show w.heap.size < (w.heap.push _).size by rw [Array.size_push]; omega)
  have hlt8 := Hb.lt
  clear h0 h1 h4 f1 f4 a0 a1 hW
  generalize w.heap.size = b8 at *
  have k0 : W1.cell? ⟨b8, 0, none⟩ = some (.int .i64 kd) := by rw [cell_of_row W1 b8 0 _ _ _ hT]; rfl
  have k1 : W1.cell? ⟨b8, 1, none⟩ = some (.int .i64 n) := by rw [cell_of_row W1 b8 1 _ _ _ hT]; rfl
  have k2 : W1.cell? ⟨b8, 2, none⟩ = some (.string (s.extract p.toNat e.toNat)) := by rw [cell_of_row W1 b8 2 _ _ _ hT]; rfl
  have k3 : W1.cell? ⟨b8, 3, none⟩ = some (.int .i64 p) := by rw [cell_of_row W1 b8 3 _ _ _ hT]; rfl
  have k4 : W1.cell? ⟨b8, 4, none⟩ = some (.int .i64 e) := by rw [cell_of_row W1 b8 4 _ _ _ hT]; rfl
  have h4 := hb1.c4
  have a4 : ∀ o, (W1.alloc o).cell? ⟨g, 4, none⟩ = some ov := fun o => (hb1.below (below_alloc (Below.refl _ _) o)).c4
  have Hb1 := Lib.hid hb1
  clear hb1 hT Hb Ho hB1
  have hnl : ∀ o : Obj, (W1.alloc o).heap[W1.heap.size]? = some o := fun o => Array.getElem?_push_size
  have Hnl := Lib.hid hnl
  clear hnl
  go_region_law (refine step_append_lies _ rfl (.tmp 34) (.tmp 36) 79 rfl B 84 i0 _ 5 48 Tryz.underlying79 hi hza hzb hzc rfl (by decide) ov m xs ?_ ?_ ⟨W1.heap.size, 0, none⟩ 1 1 [.int .i64 kd, .int .i64 n, .string (s.extract p.toNat e.toNat), .int .i64 p, .int .i64 e] ?_ rfl ?_ ?_ ?_ ?_ ?_ ?_ _ rfl ?_; rfl; (exact own_below Ho1 (by repeat (first | exact Below.refl _ _ | apply below_alloc | apply Below.drew))); rfl; (exact World.news_of_block (Hnl _)); (intro u hu; simp at hu; rcases hu with rfl | rfl | rfl | rfl | rfl <;> rfl); decide; (unfold maxLen; omega); omega; (simp; omega); (intro gg cap w1 hown1 hgrow1 hat1 hlt1; have hB2 := Lib.hid ((below_alloc (Below.refl W1.heap.size W1) (Obj.cells #[Value.int IntKind.i64 kd, Value.int IntKind.i64 n, Value.string (s.extract p.toNat e.toNat), Value.int IntKind.i64 p, Value.int IntKind.i64 e] 84)).drew); have hb2 := Lib.hid (Hb1.below hB2); have hb3 := Lib.hid (hb2.move (hgrow1.block g hb2.lt (Ne.symm Hne))); have c1 := hb3.c1; have c4 := hb3.c4; have f1 := hb3.fr 1; have f4 := hb3.fr 4; have Hgrow := Lib.hid hgrow1; have Hat := Lib.hid hat1; clear hgrow1 hat1))
  all_goals
    go_wp2_with fail
    go_end0
    exact ⟨rfl, took_close hb3 hown1 (took_chg HC1 hB2 Hgrow)⟩
set_option maxRecDepth 100000 in
set_option maxHeartbeats 1000000 in
theorem take_num (B : Nat) (kd n p e : Int) (hkd : (kd == 3) = true) (g wm sm : Nat) (s : ByteArray) (ov cv : Value) (m : Nat) (xs : List Value) (w : World) (hs : s.size ≤ 140737488351232) (hp : 0 ≤ p) (hpe : p ≤ e) (hes : e ≤ s.size)
    (hb : ScBlk w g s p wm sm ov cv) (ho : w.ownsRow B 84 5 ov m xs) (hBg : B ≤ g) (hm : m ≤ 200000) :
    Calls Tryz.prog 114 #[.pointer (some ⟨g, 0, none⟩), .int .i64 kd, .int .i64 n, .int .i64 e] w fun e' w' => e' = .returned (.tuple #[]) ∧
      Took B w w' g s e wm sm ov cv (m + 1) (xs ++ [.int .i64 kd, .int .i64 n, .string ⟨#[]⟩, .int .i64 p, .int .i64 e]) := by
  have h0 := hb.c0; have h1 := hb.c1; have h4 := hb.c4
  have f1 := hb.fr 1; have f4 := hb.fr 4
  have a0 : ∀ o, (w.alloc o).cell? ⟨g, 0, none⟩ = some (.string s) := fun o => (hb.below ((Below.refl _ _).alloc (Nat.le_refl _) o)).c0
  have a1 : ∀ o, (w.alloc o).cell? ⟨g, 1, none⟩ = some (.int .i64 p) := fun o => (hb.below ((Below.refl _ _).alloc (Nat.le_refl _) o)).c1
  have Hb := Lib.hid hb
  have Ho := Lib.hid ho
  have Hne := Lib.hid (own_ne ho hb (by decide))
  obtain ⟨i0, hi, hza, hzb, hzc⟩ := info_parts info_tok
  clear hb ho
  go_enter Tryz.func114, Tryz.ntmps114
  go_wp2_with fail
  go_region
  go_wp2_with fail
  generalize hW : ((w.alloc (Obj.cells #[Value.int IntKind.i64 kd, Value.int IntKind.i64 n, Value.string ⟨#[]⟩, Value.int IntKind.i64 p, Value.int IntKind.i64 e] 84)).drew) = W1
  have hB1 : Below w.heap.size w W1 := hW ▸ (below_alloc (Below.refl _ _) _).drew
  have hb1 := Hb.below hB1
  have HC1 := Lib.hid (Chg.of_below hB1 (fun k => k ≠ g ∧ ov.ownBlock ≠ some k))
  have Ho1 := Lib.hid (own_below Ho hB1)
  have hT : W1.heap[w.heap.size]? = some (Obj.cells #[Value.int IntKind.i64 kd, Value.int IntKind.i64 n, Value.string ⟨#[]⟩, Value.int IntKind.i64 p, Value.int IntKind.i64 e] 84 (0, 0)) := by
    rw [← hW]; exact Array.getElem?_push_size
  have hz1 : w.heap.size < W1.heap.size := by rw [← hW]; exact (show w.heap.size < (w.heap.push _).size by rw [Array.size_push]; omega)
  have hlt8 := Hb.lt
  clear h0 h1 h4 f1 f4 a0 a1 hW
  generalize w.heap.size = b8 at *
  have k0 : W1.cell? ⟨b8, 0, none⟩ = some (.int .i64 kd) := by rw [cell_of_row W1 b8 0 _ _ _ hT]; rfl
  have k1 : W1.cell? ⟨b8, 1, none⟩ = some (.int .i64 n) := by rw [cell_of_row W1 b8 1 _ _ _ hT]; rfl
  have k2 : W1.cell? ⟨b8, 2, none⟩ = some (.string ⟨#[]⟩) := by rw [cell_of_row W1 b8 2 _ _ _ hT]; rfl
  have k3 : W1.cell? ⟨b8, 3, none⟩ = some (.int .i64 p) := by rw [cell_of_row W1 b8 3 _ _ _ hT]; rfl
  have k4 : W1.cell? ⟨b8, 4, none⟩ = some (.int .i64 e) := by rw [cell_of_row W1 b8 4 _ _ _ hT]; rfl
  have h4 := hb1.c4
  have a4 : ∀ o, (W1.alloc o).cell? ⟨g, 4, none⟩ = some ov := fun o => (hb1.below (below_alloc (Below.refl _ _) o)).c4
  have Hb1 := Lib.hid hb1
  clear hb1 hT Hb Ho hB1
  have hnl : ∀ o : Obj, (W1.alloc o).heap[W1.heap.size]? = some o := fun o => Array.getElem?_push_size
  have Hnl := Lib.hid hnl
  clear hnl
  go_region_law (refine step_append_lies _ rfl (.tmp 34) (.tmp 36) 79 rfl B 84 i0 _ 5 48 Tryz.underlying79 hi hza hzb hzc rfl (by decide) ov m xs ?_ ?_ ⟨W1.heap.size, 0, none⟩ 1 1 [.int .i64 kd, .int .i64 n, .string ⟨#[]⟩, .int .i64 p, .int .i64 e] ?_ rfl ?_ ?_ ?_ ?_ ?_ ?_ _ rfl ?_; rfl; (exact own_below Ho1 (by repeat (first | exact Below.refl _ _ | apply below_alloc | apply Below.drew))); rfl; (exact World.news_of_block (Hnl _)); (intro u hu; simp at hu; rcases hu with rfl | rfl | rfl | rfl | rfl <;> rfl); decide; (unfold maxLen; omega); omega; (simp; omega); (intro gg cap w1 hown1 hgrow1 hat1 hlt1; have hB2 := Lib.hid ((below_alloc (Below.refl W1.heap.size W1) (Obj.cells #[Value.int IntKind.i64 kd, Value.int IntKind.i64 n, Value.string ⟨#[]⟩, Value.int IntKind.i64 p, Value.int IntKind.i64 e] 84)).drew); have hb2 := Lib.hid (Hb1.below hB2); have hb3 := Lib.hid (hb2.move (hgrow1.block g hb2.lt (Ne.symm Hne))); have c1 := hb3.c1; have c4 := hb3.c4; have f1 := hb3.fr 1; have f4 := hb3.fr 4; have Hgrow := Lib.hid hgrow1; have Hat := Lib.hid hat1; clear hgrow1 hat1))
  all_goals
    go_wp2_with fail
    go_end0
    exact ⟨rfl, took_close hb3 hown1 (took_chg HC1 hB2 Hgrow)⟩
end Go.Proofs.YtjcocblohiglbaaGreatDoor
/- The walks of the scanner's methods: a wrong byte, a blank, a word, a number, symbols. -/
namespace Go.Proofs.YtjcocblohiglbaaGreatDoor
open Go.RowKit Go.Maps
set_option linter.unusedVariables false
set_option linter.unusedSimpArgs false

theorem keyed : Keyed Tryz.prog 9 := string_keyed Tryz.underlying9
theorem zeroBool (w : World) : (zeroValue 4).run Tryz.prog w = .ok (.bool false) w := by kernel_rfl
theorem plainElem_bool_inv {H : Type} {v : Value} {z : DataW H × List MemPlace} (h : plainElem Tryz.prog 4 v = some z) : ∃ x, v = .bool x ∧ z = (.lit (.bool x), []) := by
  unfold plainElem at h
  rw [show Tryz.prog.underlying 4 = some .bool from Tryz.underlying4] at h
  cases v <;> simp at h
  exact ⟨_, rfl, h.symm⟩

/-- Block b is a set of strings: a map from strings to bools. -/
def HasSet (w : World) (b : Nat) (l : List Lex.Bytes) : Prop :=
  ∃ (n : Nat) (D : DataW Unit), w.ownsMap Tryz.prog 9 (plainElem Tryz.prog 4) b n D ∧ ∀ s : ByteArray, s.size ≤ maxLen → D.atKey (.string s.data.toList) (.lit (.bool false)) = .lit (.bool (l.contains s.data.toList))
theorem HasSet.move {w W : World} {b : Nat} {l : List Lex.Bytes} (h : HasSet w b l) (hb : W.heap[b]? = w.heap[b]?) : HasSet W b l := by
  obtain ⟨n, D, ⟨es, clock, he, hr⟩, hD⟩ := h
  exact ⟨n, D, ⟨es, clock, hb.trans he, hr⟩, hD⟩
theorem HasSet.lt {w : World} {b : Nat} {l : List Lex.Bytes} (h : HasSet w b l) : b < w.heap.size := by
  obtain ⟨n, D, ho, hD⟩ := h
  exact ho.lt
theorem HasSet.look {w : World} {b : Nat} {l : List Lex.Bytes} (h : HasSet w b l) (s : ByteArray) (hs : s.size ≤ maxLen) :
    (Instr.lookup 123 (.map (some b)) (.string s) false).run Tryz.prog w = .ok (.bool (l.contains s.data.toList)) w := by
  obtain ⟨n, D, ho, hD⟩ := h
  obtain ⟨v, ps, hrun, hv⟩ := ho.lookup keyed Tryz.underlying123 (zeroBool w) (plainElem_bool Tryz.underlying4 false) (Go.WideMaps.keyOf_string_mk Tryz.underlying9 hs)
  obtain ⟨x, rfl, hx⟩ := plainElem_bool_inv hv
  rw [hD s hs] at hx
  simp only [Prod.mk.injEq, DataW.lit.injEq, Lit.bool.injEq] at hx
  rw [hrun, hx.1]
theorem HasSet.looks {w : World} {b : Nat} {l : List Lex.Bytes} (h : HasSet w b l) (s : ByteArray) (hs : s.size ≤ maxLen) (x : Bool) (hx : l.contains s.data.toList = x) (n : Nat) :
    (Instr.lookup 123 (.map (some b)) (.string s) false).run Tryz.prog (w.drewN n) = .ok (.bool x) (w.drewN n) := by
  rw [← hx]
  refine (h.move (W := w.drewN n) ?_).look s hs
  rfl

/-- The panic of a wrong byte. -/
abbrev wrongAt (p e : Int) : Ending := .panicked [{ v := .iface 134 (.agg #[.int .i64 p, .int .i64 e]), recovered := false }]

set_option maxHeartbeats 400000 in
theorem fail_any (g wm sm : Nat) (s : ByteArray) (p : Int) (ov cv : Value) (w : World) (hb : ScBlk w g s p wm sm ov cv) :
    Calls Tryz.prog 96 #[.pointer (some ⟨g, 0, none⟩)] w fun e w' => e = wrongAt p 10 ∧ w = w' := by
  have h1 := hb.c1
  go_enter Tryz.func96, Tryz.ntmps96
  go_wp2
  exact ⟨rfl, rfl, rfl⟩

set_option maxHeartbeats 400000 in
theorem blank_any (g wm sm : Nat) (s : ByteArray) (p : Int) (ov cv : Value) (w : World) (hp : 0 ≤ p) (hp2 : p ≤ 140737488351232) (hb : ScBlk w g s p wm sm ov cv) :
    Calls Tryz.prog 91 #[.pointer (some ⟨g, 0, none⟩)] w fun e w' => e = .returned (.tuple #[]) ∧ w.setCell ⟨g, 1, none⟩ (.int .i64 (p + 1)) = w' := by
  have h1 := hb.c1
  have f1 := hb.fr 1
  go_enter Tryz.func91, Tryz.ntmps91
  go_wp2
  go_end0
  exact ⟨rfl, rfl⟩

theorem ScBlk.drewN {w : World} {g : Nat} {s : ByteArray} {p : Int} {wm sm : Nat} {ov cv : Value} (h : ScBlk w g s p wm sm ov cv) (n : Nat) : ScBlk (w.drewN n) g s p wm sm ov cv := h.move rfl
theorem own_drewN {w : World} {base : Nat} {e : TypeId} {size k : Nat} {v : Value} {xs : List Value} (h : w.ownsRow base e size v k xs) (n : Nat) : (w.drewN n).ownsRow base e size v k xs := h
theorem took_drewN {B : Nat} {w w' : World} {n : Nat} {g : Nat} {s : ByteArray} {e : Int} {wm sm : Nat} {ov cv : Value} {m : Nat} {xs : List Value} (h : Took B (w.drewN n) w' g s e wm sm ov cv m xs) : Took B w w' g s e wm sm ov cv m xs := by
  obtain ⟨ov', h1, h2, h3⟩ := h
  exact ⟨ov', h1, h2, ⟨h3.os, h3.tape, h3.output, h3.size, h3.block⟩⟩
theorem Took.cast {B : Nat} {w w' : World} {g : Nat} {s : ByteArray} {p r : Nat} {kd n : Int} {wm sm : Nat} {ov cv : Value} {m : Nat} {xs : List Value}
    (h : Took B w w' g s ((p : Int) + (r : Int)) wm sm ov cv (m + 1) (xs ++ [.int .i64 kd, .int .i64 n, .string (s.extract (p : Int).toNat ((p : Int) + (r : Int)).toNat), .int .i64 (p : Int), .int .i64 ((p : Int) + (r : Int))])) :
    Took B w w' g s ((p : Int) + (r : Int)) wm sm ov cv (m + 1) (xs ++ [.int .i64 kd, .int .i64 n, .string (s.extract p (p + r)), .int .i64 (p : Int), .int .i64 ((p : Int) + (r : Int))]) := by
  have e1 : ((p : Int) + (r : Int)).toNat = p + r := by omega
  rw [e1, Int.toNat_natCast] at h
  exact h

set_option maxRecDepth 100000 in
set_option maxHeartbeats 1000000 in
theorem word_long (B : Nat) (g wm sm : Nat) (s : ByteArray) (p : Nat) (ov cv : Value) (m : Nat) (xs : List Value) (w : World) (hs : s.size ≤ 100000) (hp : p ≤ s.size)
    (hb : ScBlk w g s p wm sm ov cv) (ho : w.ownsRow B 84 5 ov m xs) (hBg : B ≤ g) (hm : m ≤ 200000) (hset : HasSet w wm Lex.wordsL) (hr : 32 < run Lex.inName s p) :
    Calls Tryz.prog 92 #[.pointer (some ⟨g, 0, none⟩)] w fun e w' => e = wrongAt p 10 ∧ w = w' := by
  have h0 := hb.c0; have h1 := hb.c1; have hc := hb.c2
  have Hb := Lib.hid hb
  have Ho := Lib.hid ho
  have hle := run_le Lex.inName s p hp
  have Hw := Lib.hid (while_any 113 Lex.inName inName_tests (enters_of Tryz.func113 (by kernel_rfl) rfl) g s p w (by omega) hp h0 h1)
  clear hb ho hset
  generalize run Lex.inName s p = r at *
  go_enter Tryz.func92, Tryz.ntmps92
  go_wp2_with (go_at_call 112; refine Hw.mono ?_; rintro e w' ⟨rfl, rfl⟩)
  clear Hw
  go_wp2_with (go_at_call 96; refine (fail_any g wm sm s p ov cv _ Hb).mono ?_; rintro e w' ⟨rfl, rfl⟩)
  exact ⟨rfl, rfl, rfl⟩

set_option maxRecDepth 100000 in
set_option maxHeartbeats 1000000 in
theorem word_in (B : Nat) (g wm sm : Nat) (s : ByteArray) (p : Nat) (ov cv : Value) (m : Nat) (xs : List Value) (w : World) (hs : s.size ≤ 100000) (hp : p ≤ s.size)
    (hb : ScBlk w g s p wm sm ov cv) (ho : w.ownsRow B 84 5 ov m xs) (hBg : B ≤ g) (hm : m ≤ 200000) (hset : HasSet w wm Lex.wordsL) (hr : run Lex.inName s p ≤ 32) (hin : Lex.wordsL.contains (s.extract p (p + run Lex.inName s p)).data.toList = true) :
    Calls Tryz.prog 92 #[.pointer (some ⟨g, 0, none⟩)] w fun e w' => e = .returned (.tuple #[]) ∧ Took B w w' g s ((p : Int) + (run Lex.inName s p : Nat)) wm sm ov cv (m + 1) (xs ++ [.int .i64 2, .int .i64 0, .string (s.extract p (p + run Lex.inName s p)), .int .i64 (p : Int), .int .i64 ((p : Int) + (run Lex.inName s p : Nat))]) := by
  have h0 := hb.c0; have h1 := hb.c1; have hc := hb.c2
  have Hb := Lib.hid hb
  have Ho := Lib.hid ho
  have hle := run_le Lex.inName s p hp
  have Hw := Lib.hid (while_any 113 Lex.inName inName_tests (enters_of Tryz.func113 (by kernel_rfl) rfl) g s p w (by omega) hp h0 h1)
  have hl := fun n => hset.looks (s.extract p (p + run Lex.inName s p)) (by rw [ByteArray.size_extract]; unfold maxLen; omega) true hin n
  clear hb ho hset hin
  generalize run Lex.inName s p = r at *
  go_enter Tryz.func92, Tryz.ntmps92
  go_wp2_with (go_at_call 112; refine Hw.mono ?_; rintro e w' ⟨rfl, rfl⟩)
  clear Hw
  go_quiet (fail)
  go_wp2_with (go_at_call 114; refine (take_text B 2 0 p (p + r) (by decide) g wm sm s ov cv m xs _ (by omega) (by omega) (by omega) (by omega) (Hb.drewN nq) (own_drewN Ho nq) hBg hm).mono ?_; rintro e w' ⟨rfl, hT⟩)
  go_end0
  exact ⟨rfl, (took_drewN hT).cast⟩

set_option maxRecDepth 100000 in
set_option maxHeartbeats 1000000 in
theorem word_out (B : Nat) (g wm sm : Nat) (s : ByteArray) (p : Nat) (ov cv : Value) (m : Nat) (xs : List Value) (w : World) (hs : s.size ≤ 100000) (hp : p ≤ s.size)
    (hb : ScBlk w g s p wm sm ov cv) (ho : w.ownsRow B 84 5 ov m xs) (hBg : B ≤ g) (hm : m ≤ 200000) (hset : HasSet w wm Lex.wordsL) (hr : run Lex.inName s p ≤ 32) (hin : Lex.wordsL.contains (s.extract p (p + run Lex.inName s p)).data.toList = false) :
    Calls Tryz.prog 92 #[.pointer (some ⟨g, 0, none⟩)] w fun e w' => e = .returned (.tuple #[]) ∧ Took B w w' g s ((p : Int) + (run Lex.inName s p : Nat)) wm sm ov cv (m + 1) (xs ++ [.int .i64 1, .int .i64 0, .string (s.extract p (p + run Lex.inName s p)), .int .i64 (p : Int), .int .i64 ((p : Int) + (run Lex.inName s p : Nat))]) := by
  have h0 := hb.c0; have h1 := hb.c1; have hc := hb.c2
  have Hb := Lib.hid hb
  have Ho := Lib.hid ho
  have hle := run_le Lex.inName s p hp
  have Hw := Lib.hid (while_any 113 Lex.inName inName_tests (enters_of Tryz.func113 (by kernel_rfl) rfl) g s p w (by omega) hp h0 h1)
  have hl := fun n => hset.looks (s.extract p (p + run Lex.inName s p)) (by rw [ByteArray.size_extract]; unfold maxLen; omega) false hin n
  clear hb ho hset hin
  generalize run Lex.inName s p = r at *
  go_enter Tryz.func92, Tryz.ntmps92
  go_wp2_with (go_at_call 112; refine Hw.mono ?_; rintro e w' ⟨rfl, rfl⟩)
  clear Hw
  go_quiet (fail)
  go_wp2_with (go_at_call 114; refine (take_text B 1 0 p (p + r) (by decide) g wm sm s ov cv m xs _ (by omega) (by omega) (by omega) (by omega) (Hb.drewN nq) (own_drewN Ho nq) hBg hm).mono ?_; rintro e w' ⟨rfl, hT⟩)
  go_end0
  exact ⟨rfl, (took_drewN hT).cast⟩

set_option maxRecDepth 100000 in
set_option maxHeartbeats 1000000 in
theorem symbols_long (B : Nat) (g wm sm : Nat) (s : ByteArray) (p : Nat) (ov cv : Value) (m : Nat) (xs : List Value) (w : World) (hs : s.size ≤ 100000) (hp : p ≤ s.size)
    (hb : ScBlk w g s p wm sm ov cv) (ho : w.ownsRow B 84 5 ov m xs) (hBg : B ≤ g) (hm : m ≤ 200000) (hset : HasSet w sm Lex.signsL) (hr : 32 < run Lex.isSym s p) :
    Calls Tryz.prog 94 #[.pointer (some ⟨g, 0, none⟩)] w fun e w' => e = wrongAt p 10 ∧ w = w' := by
  have h0 := hb.c0; have h1 := hb.c1; have hc := hb.c3
  have Hb := Lib.hid hb
  have Ho := Lib.hid ho
  have hle := run_le Lex.isSym s p hp
  have Hw := Lib.hid (while_any 117 Lex.isSym sym_tests (enters_of Tryz.func117 (by kernel_rfl) rfl) g s p w (by omega) hp h0 h1)
  clear hb ho hset
  generalize run Lex.isSym s p = r at *
  go_enter Tryz.func94, Tryz.ntmps94
  go_wp2_with (go_at_call 112; refine Hw.mono ?_; rintro e w' ⟨rfl, rfl⟩)
  clear Hw
  go_wp2_with (go_at_call 96; refine (fail_any g wm sm s p ov cv _ Hb).mono ?_; rintro e w' ⟨rfl, rfl⟩)
  exact ⟨rfl, rfl, rfl⟩

set_option maxRecDepth 100000 in
set_option maxHeartbeats 1000000 in
theorem symbols_in (B : Nat) (g wm sm : Nat) (s : ByteArray) (p : Nat) (ov cv : Value) (m : Nat) (xs : List Value) (w : World) (hs : s.size ≤ 100000) (hp : p ≤ s.size)
    (hb : ScBlk w g s p wm sm ov cv) (ho : w.ownsRow B 84 5 ov m xs) (hBg : B ≤ g) (hm : m ≤ 200000) (hset : HasSet w sm Lex.signsL) (hr : run Lex.isSym s p ≤ 32) (hin : Lex.signsL.contains (s.extract p (p + run Lex.isSym s p)).data.toList = true) :
    Calls Tryz.prog 94 #[.pointer (some ⟨g, 0, none⟩)] w fun e w' => e = .returned (.tuple #[]) ∧ Took B w w' g s ((p : Int) + (run Lex.isSym s p : Nat)) wm sm ov cv (m + 1) (xs ++ [.int .i64 5, .int .i64 0, .string (s.extract p (p + run Lex.isSym s p)), .int .i64 (p : Int), .int .i64 ((p : Int) + (run Lex.isSym s p : Nat))]) := by
  have h0 := hb.c0; have h1 := hb.c1; have hc := hb.c3
  have Hb := Lib.hid hb
  have Ho := Lib.hid ho
  have hle := run_le Lex.isSym s p hp
  have Hw := Lib.hid (while_any 117 Lex.isSym sym_tests (enters_of Tryz.func117 (by kernel_rfl) rfl) g s p w (by omega) hp h0 h1)
  have hl := fun n => hset.looks (s.extract p (p + run Lex.isSym s p)) (by rw [ByteArray.size_extract]; unfold maxLen; omega) true hin n
  clear hb ho hset hin
  generalize run Lex.isSym s p = r at *
  go_enter Tryz.func94, Tryz.ntmps94
  go_wp2_with (go_at_call 112; refine Hw.mono ?_; rintro e w' ⟨rfl, rfl⟩)
  clear Hw
  go_quiet (fail)
  go_wp2_with (go_at_call 114; refine (take_text B 5 0 p (p + r) (by decide) g wm sm s ov cv m xs _ (by omega) (by omega) (by omega) (by omega) (Hb.drewN nq) (own_drewN Ho nq) hBg hm).mono ?_; rintro e w' ⟨rfl, hT⟩)
  go_end0
  exact ⟨rfl, (took_drewN hT).cast⟩

set_option maxRecDepth 100000 in
set_option maxHeartbeats 1000000 in
theorem symbols_out (B : Nat) (g wm sm : Nat) (s : ByteArray) (p : Nat) (ov cv : Value) (m : Nat) (xs : List Value) (w : World) (hs : s.size ≤ 100000) (hp : p ≤ s.size)
    (hb : ScBlk w g s p wm sm ov cv) (ho : w.ownsRow B 84 5 ov m xs) (hBg : B ≤ g) (hm : m ≤ 200000) (hset : HasSet w sm Lex.signsL) (hr : run Lex.isSym s p ≤ 32) (hin : Lex.signsL.contains (s.extract p (p + run Lex.isSym s p)).data.toList = false) :
    Calls Tryz.prog 94 #[.pointer (some ⟨g, 0, none⟩)] w fun e w' => e = .returned (.tuple #[]) ∧ Took B w w' g s ((p : Int) + (run Lex.isSym s p : Nat)) wm sm ov cv (m + 1) (xs ++ [.int .i64 4, .int .i64 0, .string (s.extract p (p + run Lex.isSym s p)), .int .i64 (p : Int), .int .i64 ((p : Int) + (run Lex.isSym s p : Nat))]) := by
  have h0 := hb.c0; have h1 := hb.c1; have hc := hb.c3
  have Hb := Lib.hid hb
  have Ho := Lib.hid ho
  have hle := run_le Lex.isSym s p hp
  have Hw := Lib.hid (while_any 117 Lex.isSym sym_tests (enters_of Tryz.func117 (by kernel_rfl) rfl) g s p w (by omega) hp h0 h1)
  have hl := fun n => hset.looks (s.extract p (p + run Lex.isSym s p)) (by rw [ByteArray.size_extract]; unfold maxLen; omega) false hin n
  clear hb ho hset hin
  generalize run Lex.isSym s p = r at *
  go_enter Tryz.func94, Tryz.ntmps94
  go_wp2_with (go_at_call 112; refine Hw.mono ?_; rintro e w' ⟨rfl, rfl⟩)
  clear Hw
  go_quiet (fail)
  go_wp2_with (go_at_call 114; refine (take_text B 4 0 p (p + r) (by decide) g wm sm s ov cv m xs _ (by omega) (by omega) (by omega) (by omega) (Hb.drewN nq) (own_drewN Ho nq) hBg hm).mono ?_; rintro e w' ⟨rfl, hT⟩)
  go_end0
  exact ⟨rfl, (took_drewN hT).cast⟩

end Go.Proofs.YtjcocblohiglbaaGreatDoor
/- The walk of (*scanner).number, over strconv.Atoi's contract. -/
namespace Go.Proofs.YtjcocblohiglbaaGreatDoor
open Go.RowKit
set_option linter.unusedVariables false
set_option linter.unusedSimpArgs false

def valFrom (acc : Nat) (l : List UInt8) : Nat := l.foldl (fun a c => 10 * a + (c.toNat - 48)) acc
theorem valFrom_ge : ∀ (l : List UInt8) (acc : Nat), acc ≤ valFrom acc l
  | [], acc => Nat.le_refl _
  | c :: r, acc => by
    have := valFrom_ge r (10 * acc + (c.toNat - 48))
    unfold valFrom at *
    simp only [List.foldl_cons]
    omega
theorem parse_digits : ∀ (l : List UInt8) (acc : Nat), acc < 18446744073709551616 → l.all Lex.isDigit = true → Lib.parseUint10 acc l = if valFrom acc l < 18446744073709551616 then .ok (valFrom acc l) else .range
  | [], acc, ha, _ => by simp [Lib.parseUint10, valFrom, ha]
  | c :: r, acc, ha, hd => by
    simp only [List.all_cons, Bool.and_eq_true] at hd
    have h1 : 48 ≤ c.toNat ∧ c.toNat ≤ 57 := by
      have := hd.1
      simp [Lex.isDigit, UInt8.le_iff_toNat_le] at this
      exact this
    have hv : valFrom acc (c :: r) = valFrom (10 * acc + (c.toNat - 48)) r := rfl
    have hg := valFrom_ge r (10 * acc + (c.toNat - 48))
    unfold Lib.parseUint10
    rw [if_pos h1, hv]
    by_cases h2 : 1844674407370955162 ≤ acc
    · rw [if_pos h2, if_neg (by omega)]
    · rw [if_neg h2]
      by_cases h3 : 18446744073709551616 ≤ acc * 10 + (c.toNat - 48)
      · rw [if_pos h3, if_neg (by omega)]
      · rw [if_neg h3, parse_digits r _ (by omega) hd.2, show acc * 10 + (c.toNat - 48) = 10 * acc + (c.toNat - 48) by omega]
theorem atoi_digits (l : List UInt8) (hne : l ≠ []) (hd : l.all Lex.isDigit = true) : Lib.atoiAll l = if Lex.digVal l < 9223372036854775808 then .ok (Lex.digVal l : Int) else .range := by
  cases l with
  | nil => exact absurd rfl hne
  | cons c r =>
    have hp := parse_digits (c :: r) 0 (by omega) hd
    have hv : valFrom 0 (c :: r) = Lex.digVal (c :: r) := rfl
    rw [hv] at hp
    simp only [List.all_cons, Bool.and_eq_true] at hd
    have h1 : 48 ≤ c.toNat ∧ c.toNat ≤ 57 := by
      have := hd.1
      simp [Lex.isDigit, UInt8.le_iff_toNat_le] at this
      exact this
    unfold Lib.atoiAll
    simp only
    rw [if_neg (by omega)]
    unfold Lib.parseMag
    rw [if_neg (by simp), hp]
    by_cases h2 : Lex.digVal (c :: r) < 18446744073709551616
    · rw [if_pos h2]
      simp only
      by_cases h3 : Lex.digVal (c :: r) < 9223372036854775808
      · rw [if_pos h3, if_neg (by omega), if_neg (by omega), if_neg (by omega)]
      · rw [if_neg h3, if_pos (by omega)]
    · rw [if_neg h2, if_neg (by omega)]

/-- What the package-level variables of Go's library hold, as the program's text lays them. -/
structure GL (w : World) : Prop where
  sp : Lib.TabIs Tryz.prog w "strings.asciiSpace" .u8 Lib.asciiSpaceTab
  p10 : Lib.TabIs Tryz.prog w "internal/strconv.uint64pow10" .u64 Lib.pow10Tab
  rng : ∃ te pe, w.cell? ⟨4, 0, none⟩ = some (.iface te pe)
theorem GL.below {w W : World} (h : GL w) (hb : Below w.heap.size w W) : GL W :=
  ⟨Lib.tabBelow_of_tabIs h.sp W hb, Lib.tabBelow_of_tabIs h.p10 W hb, by
    obtain ⟨te, pe, hc⟩ := h.rng
    exact ⟨te, pe, (hb.cell (World.block_lt_of_cell? w _ hc)).trans hc⟩⟩

theorem atoi_ok (s : ByteArray) (hs : s.size ≤ 100000) (hne : s.data.toList ≠ []) (hd : s.data.toList.all Lex.isDigit = true) (hv : Lex.digVal s.data.toList < 9223372036854775808) (w : World) :
    Calls Tryz.prog 116 #[.string s] w fun e w' => e = .returned (.tuple #[.int .i64 (Lex.digVal s.data.toList : Nat), .nilIface]) ∧ Below w.heap.size w w' := by
  refine (Tryz.strconv_Atoi_ok s (by omega) (Lex.digVal s.data.toList : Nat) (by rw [atoi_digits _ hne hd, if_pos hv]) w).mono ?_
  rintro e w' ⟨rfl, hw⟩
  refine ⟨rfl, ?_⟩
  rcases hw with rfl | ⟨t, rfl⟩
  · exact Below.refl _ _
  · exact Joins.below_bytesWorld _ _ _ _ (Nat.le_refl _)
theorem atoi_bad (s : ByteArray) (hs : s.size ≤ 100000) (hne : s.data.toList ≠ []) (hd : s.data.toList.all Lex.isDigit = true) (hv : 9223372036854775808 ≤ Lex.digVal s.data.toList) (w : World) (hG : GL w) :
    Calls Tryz.prog 116 #[.string s] w fun e w' => ∃ (n : Int) (N : Nat), e = .returned (.tuple #[.int .i64 n, .iface 176 (.pointer (some ⟨N, 0, none⟩))]) ∧ Below w.heap.size w w' := by
  obtain ⟨te, pe, hc⟩ := hG.rng
  refine (Tryz.strconv_Atoi_range s (by omega) (by rw [atoi_digits _ hne hd, if_neg (by omega)]) _ w hc (.inr ⟨te, pe, rfl⟩)).mono ?_
  rintro e w' ⟨N, rfl, _, _, hw⟩
  exact ⟨_, N, rfl, hw⟩

set_option maxRecDepth 100000 in
set_option maxHeartbeats 1000000 in
theorem number_range (B : Nat) (g wm sm : Nat) (s : ByteArray) (p : Nat) (ov cv : Value) (w : World) (hs : s.size ≤ 100000) (hp : p ≤ s.size)
    (hb : ScBlk w g s p wm sm ov cv) (hG : GL w) (hne : (s.extract p (p + run Lex.isDigit s p)).data.toList ≠ []) (hd : (s.extract p (p + run Lex.isDigit s p)).data.toList.all Lex.isDigit = true)
    (hv : 9223372036854775808 ≤ Lex.digVal (s.extract p (p + run Lex.isDigit s p)).data.toList) :
    Calls Tryz.prog 93 #[.pointer (some ⟨g, 0, none⟩)] w fun e w' => e = wrongAt p 10 ∧ Below w.heap.size w w' := by
  have h0 := hb.c0; have h1 := hb.c1
  have Hb := Lib.hid hb
  have hle := run_le Lex.isDigit s p hp
  have Hw := Lib.hid (while_any 115 Lex.isDigit digit_tests (enters_of Tryz.func115 (by kernel_rfl) rfl) g s p w (by omega) hp h0 h1)
  have Ha := Lib.hid (fun W (hW : GL W) => atoi_bad (s.extract p (p + run Lex.isDigit s p)) (by rw [ByteArray.size_extract]; omega) hne hd hv W hW)
  have HG := Lib.hid hG
  clear hb hv hd hne hG
  generalize run Lex.isDigit s p = r at *
  go_enter Tryz.func93, Tryz.ntmps93
  go_wp2_with (go_at_call 112; refine Hw.mono ?_; rintro e w' ⟨rfl, rfl⟩)
  clear Hw
  go_region_with (go_at_call 116; refine (Ha _ ?_).mono ?_; (exact HG.below (by repeat (first | exact Below.refl _ _ | apply Below.drew))); rintro e w1 ⟨mm, N, rfl, hB1⟩)
  all_goals
    have hB2 : Below w.heap.size w w1 := ⟨hB1.os, hB1.tape, hB1.output, hB1.size, hB1.block⟩
    have hb2 := Lib.hid (Hb.below hB2)
    have HB2 := Lib.hid hB2
    clear hB1 hB2
    go_wp2_with (go_at_call 96; refine (fail_any g wm sm s p ov cv _ hb2).mono ?_; rintro e w' ⟨rfl, rfl⟩)
    exact ⟨rfl, rfl, HB2⟩

theorem took_of_below {B : Nat} {w w1 w' : World} {g : Nat} {s : ByteArray} {e : Int} {wm sm : Nat} {ov cv : Value} {m : Nat} {xs : List Value} (hB : Below w.heap.size w w1) (h : Took B w1 w' g s e wm sm ov cv m xs) : Took B w w' g s e wm sm ov cv m xs := by
  obtain ⟨ov', h1, h2, h3⟩ := h
  exact ⟨ov', h1, h2, (Chg.of_below hB _).trans h3⟩

set_option maxRecDepth 100000 in
set_option maxHeartbeats 1000000 in
theorem number_big (B : Nat) (g wm sm : Nat) (s : ByteArray) (p : Nat) (ov cv : Value) (m : Nat) (xs : List Value) (w : World) (hs : s.size ≤ 100000) (hp : p ≤ s.size)
    (hb : ScBlk w g s p wm sm ov cv) (ho : w.ownsRow B 84 5 ov m xs) (hBg : B ≤ g) (hm : m ≤ 200000) (hne : (s.extract p (p + run Lex.isDigit s p)).data.toList ≠ []) (hd : (s.extract p (p + run Lex.isDigit s p)).data.toList.all Lex.isDigit = true)
    (hv : 2147483647 < Lex.digVal (s.extract p (p + run Lex.isDigit s p)).data.toList) (hv2 : Lex.digVal (s.extract p (p + run Lex.isDigit s p)).data.toList < 9223372036854775808) :
    Calls Tryz.prog 93 #[.pointer (some ⟨g, 0, none⟩)] w fun e w' => e = wrongAt p 10 ∧ Below w.heap.size w w' := by
  have h0 := hb.c0; have h1 := hb.c1
  have Hb := Lib.hid hb
  have Ho := Lib.hid ho
  have hle := run_le Lex.isDigit s p hp
  have Hw := Lib.hid (while_any 115 Lex.isDigit digit_tests (enters_of Tryz.func115 (by kernel_rfl) rfl) g s p w (by omega) hp h0 h1)
  have Ha := Lib.hid (fun W => atoi_ok (s.extract p (p + run Lex.isDigit s p)) (by rw [ByteArray.size_extract]; omega) hne hd (by omega) W)
  clear hb hd hne ho
  generalize Lex.digVal (s.extract p (p + run Lex.isDigit s p)).data.toList = v at *
  generalize run Lex.isDigit s p = r at *
  go_enter Tryz.func93, Tryz.ntmps93
  go_wp2_with (go_at_call 112; refine Hw.mono ?_; rintro e w' ⟨rfl, rfl⟩)
  clear Hw
  go_region_with (go_at_call 116; refine (Ha _).mono ?_; rintro e w1 ⟨rfl, hB1⟩)
  all_goals
    have hB2 : Below w.heap.size w w1 := ⟨hB1.os, hB1.tape, hB1.output, hB1.size, hB1.block⟩
    have hb2 := Lib.hid (Hb.below hB2)
    have ho2 := Lib.hid (own_below Ho hB2)
    have HB2 := Lib.hid hB2
    have k0 := hb2.c0
    clear hB1 hB2 Ha
    go_wp2_with (first | (go_at_call 96; refine (fail_any g wm sm s p ov cv _ hb2).mono ?_; rintro e w' ⟨rfl, rfl⟩))
    exact ⟨rfl, rfl, HB2⟩

set_option maxRecDepth 100000 in
set_option maxHeartbeats 1000000 in
theorem number_glued (B : Nat) (g wm sm : Nat) (s : ByteArray) (p : Nat) (ov cv : Value) (m : Nat) (xs : List Value) (w : World) (hs : s.size ≤ 100000) (hp : p ≤ s.size)
    (hb : ScBlk w g s p wm sm ov cv) (ho : w.ownsRow B 84 5 ov m xs) (hBg : B ≤ g) (hm : m ≤ 200000) (hne : (s.extract p (p + run Lex.isDigit s p)).data.toList ≠ []) (hd : (s.extract p (p + run Lex.isDigit s p)).data.toList.all Lex.isDigit = true)
    (hv : Lex.digVal (s.extract p (p + run Lex.isDigit s p)).data.toList ≤ 2147483647) (hlt : p + run Lex.isDigit s p < s.size) (hin : Lex.inName (s[p + run Lex.isDigit s p]'hlt) = true) :
    Calls Tryz.prog 93 #[.pointer (some ⟨g, 0, none⟩)] w fun e w' => e = wrongAt p 10 ∧ Below w.heap.size w w' := by
  have h0 := hb.c0; have h1 := hb.c1
  have Hb := Lib.hid hb
  have Ho := Lib.hid ho
  have hle := run_le Lex.isDigit s p hp
  have Hw := Lib.hid (while_any 115 Lex.isDigit digit_tests (enters_of Tryz.func115 (by kernel_rfl) rfl) g s p w (by omega) hp h0 h1)
  have Ha := Lib.hid (fun W => atoi_ok (s.extract p (p + run Lex.isDigit s p)) (by rw [ByteArray.size_extract]; omega) hne hd (by omega) W)
  clear hb hd hne ho
  generalize Lex.digVal (s.extract p (p + run Lex.isDigit s p)).data.toList = v at *
  generalize run Lex.isDigit s p = r at *
  go_enter Tryz.func93, Tryz.ntmps93
  go_wp2_with (go_at_call 112; refine Hw.mono ?_; rintro e w' ⟨rfl, rfl⟩)
  clear Hw
  go_region_with (go_at_call 116; refine (Ha _).mono ?_; rintro e w1 ⟨rfl, hB1⟩)
  all_goals
    have hB2 : Below w.heap.size w w1 := ⟨hB1.os, hB1.tape, hB1.output, hB1.size, hB1.block⟩
    have hb2 := Lib.hid (Hb.below hB2)
    have ho2 := Lib.hid (own_below Ho hB2)
    have HB2 := Lib.hid hB2
    have k0 := hb2.c0
    clear hB1 hB2 Ha
    go_wp2_with (first | (go_at_call 113; refine (inName_tests _ _).mono ?_; rintro e w' ⟨rfl, rfl⟩) | (go_at_call 96; refine (fail_any g wm sm s p ov cv _ hb2).mono ?_; rintro e w' ⟨rfl, rfl⟩))
    exact ⟨rfl, rfl, HB2⟩

set_option maxRecDepth 100000 in
set_option maxHeartbeats 1000000 in
theorem number_apart (B : Nat) (g wm sm : Nat) (s : ByteArray) (p : Nat) (ov cv : Value) (m : Nat) (xs : List Value) (w : World) (hs : s.size ≤ 100000) (hp : p ≤ s.size)
    (hb : ScBlk w g s p wm sm ov cv) (ho : w.ownsRow B 84 5 ov m xs) (hBg : B ≤ g) (hm : m ≤ 200000) (hne : (s.extract p (p + run Lex.isDigit s p)).data.toList ≠ []) (hd : (s.extract p (p + run Lex.isDigit s p)).data.toList.all Lex.isDigit = true)
    (hv : Lex.digVal (s.extract p (p + run Lex.isDigit s p)).data.toList ≤ 2147483647) (hlt : p + run Lex.isDigit s p < s.size) (hin : Lex.inName (s[p + run Lex.isDigit s p]'hlt) = false) :
    Calls Tryz.prog 93 #[.pointer (some ⟨g, 0, none⟩)] w fun e w' => e = .returned (.tuple #[]) ∧ Took B w w' g s ((p : Int) + (run Lex.isDigit s p : Nat)) wm sm ov cv (m + 1) (xs ++ [.int .i64 3, .int .i64 (Lex.digVal (s.extract p (p + run Lex.isDigit s p)).data.toList : Nat), .string ⟨#[]⟩, .int .i64 (p : Int), .int .i64 ((p : Int) + (run Lex.isDigit s p : Nat))]) := by
  have h0 := hb.c0; have h1 := hb.c1
  have Hb := Lib.hid hb
  have Ho := Lib.hid ho
  have hle := run_le Lex.isDigit s p hp
  have Hw := Lib.hid (while_any 115 Lex.isDigit digit_tests (enters_of Tryz.func115 (by kernel_rfl) rfl) g s p w (by omega) hp h0 h1)
  have Ha := Lib.hid (fun W => atoi_ok (s.extract p (p + run Lex.isDigit s p)) (by rw [ByteArray.size_extract]; omega) hne hd (by omega) W)
  clear hb hd hne ho
  generalize Lex.digVal (s.extract p (p + run Lex.isDigit s p)).data.toList = v at *
  generalize run Lex.isDigit s p = r at *
  go_enter Tryz.func93, Tryz.ntmps93
  go_wp2_with (go_at_call 112; refine Hw.mono ?_; rintro e w' ⟨rfl, rfl⟩)
  clear Hw
  go_region_with (go_at_call 116; refine (Ha _).mono ?_; rintro e w1 ⟨rfl, hB1⟩)
  all_goals
    have hB2 : Below w.heap.size w w1 := ⟨hB1.os, hB1.tape, hB1.output, hB1.size, hB1.block⟩
    have hb2 := Lib.hid (Hb.below hB2)
    have ho2 := Lib.hid (own_below Ho hB2)
    have HB2 := Lib.hid hB2
    have k0 := hb2.c0
    clear hB1 hB2 Ha
    go_wp2_with (first | (go_at_call 113; refine (inName_tests _ _).mono ?_; rintro e w' ⟨rfl, rfl⟩) | (go_at_call 114; refine (take_num B 3 v p (p + r) (by decide) g wm sm s ov cv m xs _ (by omega) (by omega) (by omega) (by omega) hb2 ho2 hBg hm).mono ?_; rintro e w' ⟨rfl, hT⟩))
    go_end0
    exact ⟨rfl, took_of_below HB2 hT⟩

set_option maxRecDepth 100000 in
set_option maxHeartbeats 1000000 in
theorem number_ends (B : Nat) (g wm sm : Nat) (s : ByteArray) (p : Nat) (ov cv : Value) (m : Nat) (xs : List Value) (w : World) (hs : s.size ≤ 100000) (hp : p ≤ s.size)
    (hb : ScBlk w g s p wm sm ov cv) (ho : w.ownsRow B 84 5 ov m xs) (hBg : B ≤ g) (hm : m ≤ 200000) (hne : (s.extract p (p + run Lex.isDigit s p)).data.toList ≠ []) (hd : (s.extract p (p + run Lex.isDigit s p)).data.toList.all Lex.isDigit = true)
    (hv : Lex.digVal (s.extract p (p + run Lex.isDigit s p)).data.toList ≤ 2147483647) (hlt : p + run Lex.isDigit s p = s.size) :
    Calls Tryz.prog 93 #[.pointer (some ⟨g, 0, none⟩)] w fun e w' => e = .returned (.tuple #[]) ∧ Took B w w' g s ((p : Int) + (run Lex.isDigit s p : Nat)) wm sm ov cv (m + 1) (xs ++ [.int .i64 3, .int .i64 (Lex.digVal (s.extract p (p + run Lex.isDigit s p)).data.toList : Nat), .string ⟨#[]⟩, .int .i64 (p : Int), .int .i64 ((p : Int) + (run Lex.isDigit s p : Nat))]) := by
  have h0 := hb.c0; have h1 := hb.c1
  have Hb := Lib.hid hb
  have Ho := Lib.hid ho
  have hle := run_le Lex.isDigit s p hp
  have Hw := Lib.hid (while_any 115 Lex.isDigit digit_tests (enters_of Tryz.func115 (by kernel_rfl) rfl) g s p w (by omega) hp h0 h1)
  have Ha := Lib.hid (fun W => atoi_ok (s.extract p (p + run Lex.isDigit s p)) (by rw [ByteArray.size_extract]; omega) hne hd (by omega) W)
  clear hb hd hne ho
  generalize Lex.digVal (s.extract p (p + run Lex.isDigit s p)).data.toList = v at *
  generalize run Lex.isDigit s p = r at *
  have Hlt := Lib.hid hlt
  have hnl : ¬ ((p : Int) + (r : Int) < (s.size : Int)) := by omega
  clear hlt
  go_enter Tryz.func93, Tryz.ntmps93
  go_wp2_with (go_at_call 112; refine Hw.mono ?_; rintro e w' ⟨rfl, rfl⟩)
  clear Hw
  go_region_with (go_at_call 116; refine (Ha _).mono ?_; rintro e w1 ⟨rfl, hB1⟩)
  all_goals
    have hB2 : Below w.heap.size w w1 := ⟨hB1.os, hB1.tape, hB1.output, hB1.size, hB1.block⟩
    have hb2 := Lib.hid (Hb.below hB2)
    have ho2 := Lib.hid (own_below Ho hB2)
    have HB2 := Lib.hid hB2
    have k0 := hb2.c0
    clear hB1 hB2 Ha
    go_wp2_with (first | (go_at_call 114; refine (take_num B 3 v p (p + r) (by decide) g wm sm s ov cv m xs _ (by omega) (by omega) (by omega) (by omega) hb2 ho2 hBg hm).mono ?_; rintro e w' ⟨rfl, hT⟩))
    go_end0
    exact ⟨rfl, took_of_below HB2 hT⟩
end Go.Proofs.YtjcocblohiglbaaGreatDoor
