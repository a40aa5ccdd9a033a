-- Printed by a program of this session (myprint.py, resplit.py), which drives the kit's printer; Lean checks every row.
import Derived.Test.YtglgppkjgodlkaaGreatDoorP0
import Derived.Test.YtglgppkjgodlkaaGreatDoorP1
import Derived.Test.YtglgppkjgodlkaaGreatDoorG0
import Derived.Test.YtglgppkjgodlkaaGreatDoorG1
import Derived.Test.YtglgppkjgodlkaaGreatDoorG10
import Derived.Test.YtglgppkjgodlkaaGreatDoorG15
import Derived.Test.YtglgppkjgodlkaaGreatDoorG2
import Derived.Test.YtglgppkjgodlkaaGreatDoorG3
import Derived.Test.YtglgppkjgodlkaaGreatDoorG4
import Derived.Test.YtglgppkjgodlkaaGreatDoorG9
namespace Go.Proofs.YtglgppkjgodlkaaGreatDoor.P
open Go.Proofs.YtglgppkjgodlkaaGreatDoorW.PrintLast Go.Proofs.YtglgppkjgodlkaaGreatDoorW.PrintMore Go.Proofs.YtglgppkjgodlkaaGreatDoorW.PrintWords Go.RowKit
attribute [local go_sem] max2_int min2_int max_two min_two max_three min_three max_four min_four   -- for this text's walks alone
set_option linter.unusedVariables false
set_option linter.unusedSimpArgs false
attribute [local go_sem high] eqA38

/-! ### madrigallaw01_LexEdited: function 10 -/
mutual
def madrigallaw01_LexEdited.j0 : Nat → ByteArray → List (S38) → Int → ByteArray → List (S38) → Bool → Int → Int → ByteArray → Int → Int → ByteArray → Option (Bool)
 | 0, _, _, _, _, _, _, _, _, _, _, _, _ => none
 | k + 1, x0, x7, x9, x10, x11, x60, x448000, x448001, x448002, x449000, x449001, x449002 => if x60 = true then (some ((x11.length : Int) == 0)) else (if x9 = 0 then (if x448000 < 0 then (madrigallaw01_LexEdited.j1 k x0 x7 x10 x11 true x448000 x448001 x448002 x449000 x449001 x449002) else (if x448001 < 0 then (madrigallaw01_LexEdited.j1 k x0 x7 x10 x11 true x448000 x448001 x448002 x449000 x449001 x449002) else (if x448000 > (x0.size : Int) then (madrigallaw01_LexEdited.j1 k x0 x7 x10 x11 true x448000 x448001 x448002 x449000 x449001 x449002) else (madrigallaw01_LexEdited.j1 k x0 x7 x10 x11 (decide (x448001 > (wrap64 ((x0.size : Int) - x448000)))) x448000 x448001 x448002 x449000 x449001 x449002)))) else (madrigallaw01_LexEdited.j1 k x0 x7 x10 x11 true x448000 x448001 x448002 x449000 x449001 x449002))
def madrigallaw01_LexEdited.j1 : Nat → ByteArray → List (S38) → ByteArray → List (S38) → Bool → Int → Int → ByteArray → Int → Int → ByteArray → Option (Bool)
 | 0, _, _, _, _, _, _, _, _, _, _, _ => none
 | k + 1, x0, x7, x10, x11, x92, x448000, x448001, x448002, x449000, x449001, x449002 => if x92 = true then (some false) else (if 0 ≤ x448000 then (if x448000 ≤ (wrap64 (x448000 + x448001)) then (if (wrap64 (x448000 + x448001)) ≤ (x0.size : Int) then ((lex_Change.f k x10 x11 x448000 (x448002.size : Int) (x0.extract (x448000 : Int).toNat ((wrap64 (x448000 + x448001)) : Int).toNat)).bind fun bt465 => (if bt465.2.2.2 = 0 then (if bt465.1.toList = x0.toList then ((madrigalref01_Same.f k bt465.2.1 x7).bind fun t471 => (madrigallaw01_LexEdited.j2 k x0 x7 x10 x11 (!t471) x448000 x448001 x448002 x449000 x449001 x449002)) else (madrigallaw01_LexEdited.j2 k x0 x7 x10 x11 true x448000 x448001 x448002 x449000 x449001 x449002)) else (madrigallaw01_LexEdited.j2 k x0 x7 x10 x11 true x448000 x448001 x448002 x449000 x449001 x449002))) else (none)) else (none)) else (none))
def madrigallaw01_LexEdited.j2 : Nat → ByteArray → List (S38) → ByteArray → List (S38) → Bool → Int → Int → ByteArray → Int → Int → ByteArray → Option (Bool)
 | 0, _, _, _, _, _, _, _, _, _, _, _ => none
 | k + 1, x0, x7, x10, x11, x128, x448000, x448001, x448002, x449000, x449001, x449002 => if x128 = true then (some false) else (if x449000 < (wrap64 (x448000 + x448001)) then (madrigallaw01_LexEdited.j3 k x0 x7 x10 x11 true x448000 x448001 x448002 x449000 x449001 x449002) else (if x449000 < 0 then (madrigallaw01_LexEdited.j3 k x0 x7 x10 x11 true x448000 x448001 x448002 x449000 x449001 x449002) else (if x449001 < 0 then (madrigallaw01_LexEdited.j3 k x0 x7 x10 x11 true x448000 x448001 x448002 x449000 x449001 x449002) else (if x449000 > (x0.size : Int) then (madrigallaw01_LexEdited.j3 k x0 x7 x10 x11 true x448000 x448001 x448002 x449000 x449001 x449002) else (madrigallaw01_LexEdited.j3 k x0 x7 x10 x11 (decide (x449001 > (wrap64 ((x0.size : Int) - x449000)))) x448000 x448001 x448002 x449000 x449001 x449002)))))
def madrigallaw01_LexEdited.j3 : Nat → ByteArray → List (S38) → ByteArray → List (S38) → Bool → Int → Int → ByteArray → Int → Int → ByteArray → Option (Bool)
 | 0, _, _, _, _, _, _, _, _, _, _, _ => none
 | k + 1, x0, x7, x10, x11, x163, x448000, x448001, x448002, x449000, x449001, x449002 => if x163 = true then (some true) else ((lex_Change.f k x10 x11 (wrap64 ((wrap64 (x449000 - x448001)) + (x448002.size : Int))) x449001 x449002).bind fun bt472 => ((lex_Change.f k x0 x7 x449000 x449001 x449002).bind fun bt478 => (if bt478.2.2.2 = 0 then ((lex_Change.f k bt478.1 bt478.2.1 x448000 x448001 x448002).bind fun bt484 => (if bt472.1.toList = bt484.1.toList then (if bt472.2.2.2 = bt484.2.2.2 then ((madrigalref01_Same.f k bt472.2.1 bt484.2.1).bind fun t490 => (some t490)) else (some false)) else (some false))) else (some true))))
end
def madrigallaw01_LexEdited.f (k : Nat) (a0 : ByteArray) (a1_0 : Int) (a1_1 : Int) (a1_2 : ByteArray) (a2_0 : Int) (a2_1 : Int) (a2_2 : ByteArray) : Option (Bool) := (madrigallaw01_sane.f).bind fun t449 => (if t449 = true then ((madrigallaw01_short.f k (([a0, a1_2, a2_2] : List ByteArray))).bind fun t453 => (if t453 = true then ((lex_Tokens.f a0).bind fun bt454 => (if bt454.2.2 = 0 then ((lex_Change.f k a0 bt454.1 a1_0 a1_1 a1_2).bind fun bt459 => (if bt459.2.2.2 = 1 then (madrigallaw01_LexEdited.j0 k a0 bt454.1 bt459.2.2.2 bt459.1 bt459.2.1 true a1_0 a1_1 a1_2 a2_0 a2_1 a2_2) else (if bt459.2.2.2 = 10 then (madrigallaw01_LexEdited.j0 k a0 bt454.1 bt459.2.2.2 bt459.1 bt459.2.1 true a1_0 a1_1 a1_2 a2_0 a2_1 a2_2) else (madrigallaw01_LexEdited.j0 k a0 bt454.1 bt459.2.2.2 bt459.1 bt459.2.1 (bt459.2.2.2 == 2) a1_0 a1_1 a1_2 a2_0 a2_1 a2_2)))) else (some true))) else (some true))) else (some false))
theorem madrigallaw01_LexEdited.mono_l : ∀ k, (∀ y0 y1 y2 y3 y4 y5 y6 y7 y8 y9 y10 y11, LeO (madrigallaw01_LexEdited.j0 k y0 y1 y2 y3 y4 y5 y6 y7 y8 y9 y10 y11) (madrigallaw01_LexEdited.j0 (k + 1) y0 y1 y2 y3 y4 y5 y6 y7 y8 y9 y10 y11)) ∧ (∀ y0 y1 y2 y3 y4 y5 y6 y7 y8 y9 y10, LeO (madrigallaw01_LexEdited.j1 k y0 y1 y2 y3 y4 y5 y6 y7 y8 y9 y10) (madrigallaw01_LexEdited.j1 (k + 1) y0 y1 y2 y3 y4 y5 y6 y7 y8 y9 y10)) ∧ (∀ y0 y1 y2 y3 y4 y5 y6 y7 y8 y9 y10, LeO (madrigallaw01_LexEdited.j2 k y0 y1 y2 y3 y4 y5 y6 y7 y8 y9 y10) (madrigallaw01_LexEdited.j2 (k + 1) y0 y1 y2 y3 y4 y5 y6 y7 y8 y9 y10)) ∧ (∀ y0 y1 y2 y3 y4 y5 y6 y7 y8 y9 y10, LeO (madrigallaw01_LexEdited.j3 k y0 y1 y2 y3 y4 y5 y6 y7 y8 y9 y10) (madrigallaw01_LexEdited.j3 (k + 1) y0 y1 y2 y3 y4 y5 y6 y7 y8 y9 y10))
 | 0 => ⟨fun _ _ _ _ _ _ _ _ _ _ _ _ r h => by simp [madrigallaw01_LexEdited.j0] at h, fun _ _ _ _ _ _ _ _ _ _ _ r h => by simp [madrigallaw01_LexEdited.j1] at h, fun _ _ _ _ _ _ _ _ _ _ _ r h => by simp [madrigallaw01_LexEdited.j2] at h, fun _ _ _ _ _ _ _ _ _ _ _ r h => by simp [madrigallaw01_LexEdited.j3] at h⟩
 | k + 1 => by
  obtain ⟨ih0, ih1, ih2, ih3⟩ := madrigallaw01_LexEdited.mono_l k
  refine ⟨?_, ?_, ?_, ?_⟩
  ·intro y0 y1 y2 y3 y4 y5 y6 y7 y8 y9 y10 y11
   unfold madrigallaw01_LexEdited.j0
   repeat' first
   | (with_reducible exact ih0 _ _ _ _ _ _ _ _ _ _ _ _)
   | (with_reducible exact ih1 _ _ _ _ _ _ _ _ _ _ _)
   | (with_reducible exact ih2 _ _ _ _ _ _ _ _ _ _ _)
   | (with_reducible exact ih3 _ _ _ _ _ _ _ _ _ _ _)
   | (with_reducible exact lex_Change.mono _ _ _ _ _ _)
   | (with_reducible exact madrigallaw01_short.mono _ _)
   | (with_reducible exact madrigalref01_Same.mono _ _ _)
   | (with_reducible exact LeO.refl _)
   | (with_reducible exact LeO.none _)
   | (with_reducible refine LeO.ite ?_ ?_)
   | (with_reducible refine LeO.bind ?_ (fun _ => ?_))
   | exact ih0 _ _ _ _ _ _ _ _ _ _ _ _
   | exact ih1 _ _ _ _ _ _ _ _ _ _ _
   | exact ih2 _ _ _ _ _ _ _ _ _ _ _
   | exact ih3 _ _ _ _ _ _ _ _ _ _ _
   | exact lex_Change.mono _ _ _ _ _ _
   | exact madrigallaw01_short.mono _ _
   | exact madrigalref01_Same.mono _ _ _
   | exact LeO.none _
   | refine LeO.ite ?_ ?_
   | refine LeO.bind ?_ (fun _ => ?_)
  ·intro y0 y1 y2 y3 y4 y5 y6 y7 y8 y9 y10
   unfold madrigallaw01_LexEdited.j1
   repeat' first
   | (with_reducible exact ih0 _ _ _ _ _ _ _ _ _ _ _ _)
   | (with_reducible exact ih1 _ _ _ _ _ _ _ _ _ _ _)
   | (with_reducible exact ih2 _ _ _ _ _ _ _ _ _ _ _)
   | (with_reducible exact ih3 _ _ _ _ _ _ _ _ _ _ _)
   | (with_reducible exact lex_Change.mono _ _ _ _ _ _)
   | (with_reducible exact madrigallaw01_short.mono _ _)
   | (with_reducible exact madrigalref01_Same.mono _ _ _)
   | (with_reducible exact LeO.refl _)
   | (with_reducible exact LeO.none _)
   | (with_reducible refine LeO.ite ?_ ?_)
   | (with_reducible refine LeO.bind ?_ (fun _ => ?_))
   | exact ih0 _ _ _ _ _ _ _ _ _ _ _ _
   | exact ih1 _ _ _ _ _ _ _ _ _ _ _
   | exact ih2 _ _ _ _ _ _ _ _ _ _ _
   | exact ih3 _ _ _ _ _ _ _ _ _ _ _
   | exact lex_Change.mono _ _ _ _ _ _
   | exact madrigallaw01_short.mono _ _
   | exact madrigalref01_Same.mono _ _ _
   | exact LeO.none _
   | refine LeO.ite ?_ ?_
   | refine LeO.bind ?_ (fun _ => ?_)
  ·intro y0 y1 y2 y3 y4 y5 y6 y7 y8 y9 y10
   unfold madrigallaw01_LexEdited.j2
   repeat' first
   | (with_reducible exact ih0 _ _ _ _ _ _ _ _ _ _ _ _)
   | (with_reducible exact ih1 _ _ _ _ _ _ _ _ _ _ _)
   | (with_reducible exact ih2 _ _ _ _ _ _ _ _ _ _ _)
   | (with_reducible exact ih3 _ _ _ _ _ _ _ _ _ _ _)
   | (with_reducible exact lex_Change.mono _ _ _ _ _ _)
   | (with_reducible exact madrigallaw01_short.mono _ _)
   | (with_reducible exact madrigalref01_Same.mono _ _ _)
   | (with_reducible exact LeO.refl _)
   | (with_reducible exact LeO.none _)
   | (with_reducible refine LeO.ite ?_ ?_)
   | (with_reducible refine LeO.bind ?_ (fun _ => ?_))
   | exact ih0 _ _ _ _ _ _ _ _ _ _ _ _
   | exact ih1 _ _ _ _ _ _ _ _ _ _ _
   | exact ih2 _ _ _ _ _ _ _ _ _ _ _
   | exact ih3 _ _ _ _ _ _ _ _ _ _ _
   | exact lex_Change.mono _ _ _ _ _ _
   | exact madrigallaw01_short.mono _ _
   | exact madrigalref01_Same.mono _ _ _
   | exact LeO.none _
   | refine LeO.ite ?_ ?_
   | refine LeO.bind ?_ (fun _ => ?_)
  ·intro y0 y1 y2 y3 y4 y5 y6 y7 y8 y9 y10
   unfold madrigallaw01_LexEdited.j3
   repeat' first
   | (with_reducible exact ih0 _ _ _ _ _ _ _ _ _ _ _ _)
   | (with_reducible exact ih1 _ _ _ _ _ _ _ _ _ _ _)
   | (with_reducible exact ih2 _ _ _ _ _ _ _ _ _ _ _)
   | (with_reducible exact ih3 _ _ _ _ _ _ _ _ _ _ _)
   | (with_reducible exact lex_Change.mono _ _ _ _ _ _)
   | (with_reducible exact madrigallaw01_short.mono _ _)
   | (with_reducible exact madrigalref01_Same.mono _ _ _)
   | (with_reducible exact LeO.refl _)
   | (with_reducible exact LeO.none _)
   | (with_reducible refine LeO.ite ?_ ?_)
   | (with_reducible refine LeO.bind ?_ (fun _ => ?_))
   | exact ih0 _ _ _ _ _ _ _ _ _ _ _ _
   | exact ih1 _ _ _ _ _ _ _ _ _ _ _
   | exact ih2 _ _ _ _ _ _ _ _ _ _ _
   | exact ih3 _ _ _ _ _ _ _ _ _ _ _
   | exact lex_Change.mono _ _ _ _ _ _
   | exact madrigallaw01_short.mono _ _
   | exact madrigalref01_Same.mono _ _ _
   | exact LeO.none _
   | refine LeO.ite ?_ ?_
   | refine LeO.bind ?_ (fun _ => ?_)
theorem madrigallaw01_LexEdited.mono : ∀ a0 a1 a2 a3 a4 a5 a6 k, LeO (madrigallaw01_LexEdited.f k a0 a1 a2 a3 a4 a5 a6) (madrigallaw01_LexEdited.f (k + 1) a0 a1 a2 a3 a4 a5 a6) := by
 intro a0 a1 a2 a3 a4 a5 a6 k
 obtain ⟨ih0, ih1, ih2, ih3⟩ := madrigallaw01_LexEdited.mono_l k
 unfold madrigallaw01_LexEdited.f
 repeat' first
   | (with_reducible exact ih0 _ _ _ _ _ _ _ _ _ _ _ _)
   | (with_reducible exact ih1 _ _ _ _ _ _ _ _ _ _ _)
   | (with_reducible exact ih2 _ _ _ _ _ _ _ _ _ _ _)
   | (with_reducible exact ih3 _ _ _ _ _ _ _ _ _ _ _)
   | (with_reducible exact lex_Change.mono _ _ _ _ _ _)
   | (with_reducible exact madrigallaw01_short.mono _ _)
   | (with_reducible exact madrigalref01_Same.mono _ _ _)
   | (with_reducible exact LeO.refl _)
   | (with_reducible exact LeO.none _)
   | (with_reducible refine LeO.ite ?_ ?_)
   | (with_reducible refine LeO.bind ?_ (fun _ => ?_))
   | exact ih0 _ _ _ _ _ _ _ _ _ _ _ _
   | exact ih1 _ _ _ _ _ _ _ _ _ _ _
   | exact ih2 _ _ _ _ _ _ _ _ _ _ _
   | exact ih3 _ _ _ _ _ _ _ _ _ _ _
   | exact lex_Change.mono _ _ _ _ _ _
   | exact madrigallaw01_short.mono _ _
   | exact madrigalref01_Same.mono _ _ _
   | exact LeO.none _
   | refine LeO.ite ?_ ?_
   | refine LeO.bind ?_ (fun _ => ?_)
def madrigallaw01_LexEdited.T13 : Bool × List (List Nat × List Nat) := (true, [([], []), ([], []), ([], []), ([2], [2]), ([], []), ([4], [4]), ([5], [5]), ([], []), ([], []), ([8], [8]), ([], []), ([10], [10]), ([], []), ([12], [12]), ([11, 13], [11, 13]), ([7, 9, 14], [7, 9, 14]), ([3, 6, 15], [3, 6, 15]), ([0, 1, 16], [0, 1, 16]), ([17], [17]), ([18], [18]), ([18], [18]), ([18], [18]), ([18], [18]), ([19, 17, 0, 1, 2, 3, 4, 5, 6, 7, 8, 9, 10, 11, 12, 13, 14, 15, 16, 17, 18, 19], [19]), ([20, 23, 0, 1, 2, 3, 4, 5, 6, 7, 8, 9, 10, 11, 12, 13, 14, 15, 16, 17, 18, 19, 20, 23], [20]), ([21, 24, 0, 1, 2, 3, 4, 5, 6, 7, 8, 9, 10, 11, 12, 13, 14, 15, 16, 17, 18, 19, 20, 21, 23, 24], [21]), ([22, 25, 0, 1, 2, 3, 4, 5, 6, 7, 8, 9, 10, 11, 12, 13, 14, 15, 16, 17, 18, 19, 20, 21, 22, 23, 24, 25], [22])])
def madrigallaw01_LexEdited.B13 : List Nat := [0, 0, 0, 4, 0, 16, 48, 0, 0, 256, 0, 1024, 0, 4096, 15360, 32640, 65532, 131071, 262143, 524287, 524287, 524287, 524287, 1048575, 10485759, 29360127, 67108863]
theorem madrigallaw01_LexEdited.tab13 : rtab .any (opsOf Tryz.f10 13) = madrigallaw01_LexEdited.T13 := by kernel_rfl
theorem madrigallaw01_LexEdited.bits13 : waitsOk madrigallaw01_LexEdited.T13.2 madrigallaw01_LexEdited.B13 = true := by kernel_rfl
set_option maxHeartbeats 8000000 in
set_option maxRecDepth 100000 in
theorem madrigallaw01_LexEdited.calls (k : Nat) (a0 : ByteArray) (a1_0 : Int) (a1_1 : Int) (a1_2 : ByteArray) (a2_0 : Int) (a2_1 : Int) (a2_2 : ByteArray) (r : Bool) (w : World) (h : madrigallaw01_LexEdited.f k a0 a1_0 a1_1 a1_2 a2_0 a2_1 a2_2 = some r) (hG : GL w) :
  Calls Tryz.prog 10 #[.string a0, .agg #[.int .i64 a1_0, .int .i64 a1_1, .string a1_2], .agg #[.int .i64 a2_0, .int .i64 a2_1, .string a2_2]] w fun e w' => e = .returned (.bool r) ∧ Below w.heap.size w w' := by
 have hu51 := Tryz.underlying51
 have HG := Aside0.mk hG
 clear hG
 have HB := Aside0.mk (Below.refl w.heap.size w)
 have H : ((madrigallaw01_sane.f).bind fun t449 => (if t449 = true then ((madrigallaw01_short.f k (([a0, a1_2, a2_2] : List ByteArray))).bind fun t453 => (if t453 = true then ((lex_Tokens.f a0).bind fun bt454 => (if bt454.2.2 = 0 then ((lex_Change.f k a0 bt454.1 a1_0 a1_1 a1_2).bind fun bt459 => (if bt459.2.2.2 = 1 then (madrigallaw01_LexEdited.j0 k a0 bt454.1 bt459.2.2.2 bt459.1 bt459.2.1 true a1_0 a1_1 a1_2 a2_0 a2_1 a2_2) else (if bt459.2.2.2 = 10 then (madrigallaw01_LexEdited.j0 k a0 bt454.1 bt459.2.2.2 bt459.1 bt459.2.1 true a1_0 a1_1 a1_2 a2_0 a2_1 a2_2) else (madrigallaw01_LexEdited.j0 k a0 bt454.1 bt459.2.2.2 bt459.1 bt459.2.1 (bt459.2.2.2 == 2) a1_0 a1_1 a1_2 a2_0 a2_1 a2_2)))) else (some true))) else (some true))) else (some false))) = some r := h
 clear h
 replace H := Option.bind_eq_some_iff.mp H
 obtain ⟨t449, A40, H⟩ := H
 replace H : (if t449 = true then ((madrigallaw01_short.f k (([a0, a1_2, a2_2] : List ByteArray))).bind fun t453 => (if t453 = true then ((lex_Tokens.f a0).bind fun bt454 => (if bt454.2.2 = 0 then ((lex_Change.f k a0 bt454.1 a1_0 a1_1 a1_2).bind fun bt459 => (if bt459.2.2.2 = 1 then (madrigallaw01_LexEdited.j0 k a0 bt454.1 bt459.2.2.2 bt459.1 bt459.2.1 true a1_0 a1_1 a1_2 a2_0 a2_1 a2_2) else (if bt459.2.2.2 = 10 then (madrigallaw01_LexEdited.j0 k a0 bt454.1 bt459.2.2.2 bt459.1 bt459.2.1 true a1_0 a1_1 a1_2 a2_0 a2_1 a2_2) else (madrigallaw01_LexEdited.j0 k a0 bt454.1 bt459.2.2.2 bt459.1 bt459.2.1 (bt459.2.2.2 == 2) a1_0 a1_1 a1_2 a2_0 a2_1 a2_2)))) else (some true))) else (some true))) else (some false)) = some r := H
 have A4 := Aside0.mk A40
 clear A40
 by_cases c5 : t449 = true
 ·subst c5
  have H1 : ((madrigallaw01_short.f k (([a0, a1_2, a2_2] : List ByteArray))).bind fun t453 => (if t453 = true then ((lex_Tokens.f a0).bind fun bt454 => (if bt454.2.2 = 0 then ((lex_Change.f k a0 bt454.1 a1_0 a1_1 a1_2).bind fun bt459 => (if bt459.2.2.2 = 1 then (madrigallaw01_LexEdited.j0 k a0 bt454.1 bt459.2.2.2 bt459.1 bt459.2.1 true a1_0 a1_1 a1_2 a2_0 a2_1 a2_2) else (if bt459.2.2.2 = 10 then (madrigallaw01_LexEdited.j0 k a0 bt454.1 bt459.2.2.2 bt459.1 bt459.2.1 true a1_0 a1_1 a1_2 a2_0 a2_1 a2_2) else (madrigallaw01_LexEdited.j0 k a0 bt454.1 bt459.2.2.2 bt459.1 bt459.2.1 (bt459.2.2.2 == 2) a1_0 a1_1 a1_2 a2_0 a2_1 a2_2)))) else (some true))) else (some true))) = some r := by rw [if_pos rfl] at H; exact H
  clear H
  have H := H1
  clear H1
  obtain ⟨y450, hy450⟩ : ∃ y_ : List ByteArray, y_ = (([a0, a1_2, a2_2] : List ByteArray)) := ⟨_, rfl⟩
  replace H : ((madrigallaw01_short.f k y450).bind fun t453 => (if t453 = true then ((lex_Tokens.f a0).bind fun bt454 => (if bt454.2.2 = 0 then ((lex_Change.f k a0 bt454.1 a1_0 a1_1 a1_2).bind fun bt459 => (if bt459.2.2.2 = 1 then (madrigallaw01_LexEdited.j0 k a0 bt454.1 bt459.2.2.2 bt459.1 bt459.2.1 true a1_0 a1_1 a1_2 a2_0 a2_1 a2_2) else (if bt459.2.2.2 = 10 then (madrigallaw01_LexEdited.j0 k a0 bt454.1 bt459.2.2.2 bt459.1 bt459.2.1 true a1_0 a1_1 a1_2 a2_0 a2_1 a2_2) else (madrigallaw01_LexEdited.j0 k a0 bt454.1 bt459.2.2.2 bt459.1 bt459.2.1 (bt459.2.2.2 == 2) a1_0 a1_1 a1_2 a2_0 a2_1 a2_2)))) else (some true))) else (some true))) = some r := by first | (rw [hy450]; with_reducible exact H) | (have H2_ := (Option.bind_some _ _).symm.trans H; rw [hy450]; with_reducible exact H2_) | (have H2_ := (Option.bind_some _ _).symm.trans H; with_reducible exact H2_) | with_reducible exact H | (rw [hy450]; exact H) | exact H
  have Ny450 := Aside0.mk hy450
  clear hy450
  replace H := Option.bind_eq_some_iff.mp H
  obtain ⟨t453, A60, H⟩ := H
  replace H : (if t453 = true then ((lex_Tokens.f a0).bind fun bt454 => (if bt454.2.2 = 0 then ((lex_Change.f k a0 bt454.1 a1_0 a1_1 a1_2).bind fun bt459 => (if bt459.2.2.2 = 1 then (madrigallaw01_LexEdited.j0 k a0 bt454.1 bt459.2.2.2 bt459.1 bt459.2.1 true a1_0 a1_1 a1_2 a2_0 a2_1 a2_2) else (if bt459.2.2.2 = 10 then (madrigallaw01_LexEdited.j0 k a0 bt454.1 bt459.2.2.2 bt459.1 bt459.2.1 true a1_0 a1_1 a1_2 a2_0 a2_1 a2_2) else (madrigallaw01_LexEdited.j0 k a0 bt454.1 bt459.2.2.2 bt459.1 bt459.2.1 (bt459.2.2.2 == 2) a1_0 a1_1 a1_2 a2_0 a2_1 a2_2)))) else (some true))) else (some true)) = some r := H
  have A6 := Aside0.mk A60
  clear A60
  by_cases c7 : t453 = true
  ·subst c7
   have H1 : ((lex_Tokens.f a0).bind fun bt454 => (if bt454.2.2 = 0 then ((lex_Change.f k a0 bt454.1 a1_0 a1_1 a1_2).bind fun bt459 => (if bt459.2.2.2 = 1 then (madrigallaw01_LexEdited.j0 k a0 bt454.1 bt459.2.2.2 bt459.1 bt459.2.1 true a1_0 a1_1 a1_2 a2_0 a2_1 a2_2) else (if bt459.2.2.2 = 10 then (madrigallaw01_LexEdited.j0 k a0 bt454.1 bt459.2.2.2 bt459.1 bt459.2.1 true a1_0 a1_1 a1_2 a2_0 a2_1 a2_2) else (madrigallaw01_LexEdited.j0 k a0 bt454.1 bt459.2.2.2 bt459.1 bt459.2.1 (bt459.2.2.2 == 2) a1_0 a1_1 a1_2 a2_0 a2_1 a2_2)))) else (some true))) = some r := by rw [if_pos rfl] at H; exact H
   clear H
   have H := H1
   clear H1
   replace H := Option.bind_eq_some_iff.mp H
   obtain ⟨⟨t454, t455, t456⟩, A80, H⟩ := H
   replace H : (if t456 = 0 then ((lex_Change.f k a0 t454 a1_0 a1_1 a1_2).bind fun bt459 => (if bt459.2.2.2 = 1 then (madrigallaw01_LexEdited.j0 k a0 t454 bt459.2.2.2 bt459.1 bt459.2.1 true a1_0 a1_1 a1_2 a2_0 a2_1 a2_2) else (if bt459.2.2.2 = 10 then (madrigallaw01_LexEdited.j0 k a0 t454 bt459.2.2.2 bt459.1 bt459.2.1 true a1_0 a1_1 a1_2 a2_0 a2_1 a2_2) else (madrigallaw01_LexEdited.j0 k a0 t454 bt459.2.2.2 bt459.1 bt459.2.1 (bt459.2.2.2 == 2) a1_0 a1_1 a1_2 a2_0 a2_1 a2_2)))) else (some true)) = some r := H
   have A8 := Aside0.mk A80
   clear A80
   by_cases c9 : t456 = 0
   ·rw [if_pos c9] at H
    have c9b0 : (t456 == 0) = true := beq_iff_eq.mpr c9
    have c9b1 : (t456 != 0) = false := bne_eq_false_iff_eq.mpr c9
    clear c9
    replace H := Option.bind_eq_some_iff.mp H
    obtain ⟨⟨t459, t460, t463, t464⟩, A100, H⟩ := H
    replace H : (if t464 = 1 then (madrigallaw01_LexEdited.j0 k a0 t454 t464 t459 t460 true a1_0 a1_1 a1_2 a2_0 a2_1 a2_2) else (if t464 = 10 then (madrigallaw01_LexEdited.j0 k a0 t454 t464 t459 t460 true a1_0 a1_1 a1_2 a2_0 a2_1 a2_2) else (madrigallaw01_LexEdited.j0 k a0 t454 t464 t459 t460 (t464 == 2) a1_0 a1_1 a1_2 a2_0 a2_1 a2_2))) = some r := H
    have A10 := Aside0.mk A100
    clear A100
    have HC11 := Aside0.mk H
    clear H
    go_enter Tryz.func10, Tryz.ntmps10
    go_upto_region 9 with (first | ((with_reducible refine gate_dst (N := 4) rfl ?_); (try (refine gate_guard (by rfl) ?_; dsimp only)); refine box_event ?hg (N := 4) ?hd (cs := #[.int .i64 a1_0, .int .i64 a1_1, .string a1_2]) (t := 51) ?hr ?_; (case hd => rfl); (case hg => rfl); (case hr => first | (go_simp; done) | (go_simp; rfl)); intro gb447 hg w12 hbox hb; have n0_ := Aside0.mk (below_step (by repeat (first | (with_reducible first | exact HB.out | apply below_alloc | apply pw_below_drewN | apply below_drew1) | exact HB.out)) hb); have n1_ := Aside0.mk (hbox); have n2_ := Aside0.mk ((by rw [hg]; exact (below_size (by repeat (first | (with_reducible first | exact HB.out | apply below_alloc | apply pw_below_drewN | apply below_drew1) | exact HB.out))) : w.heap.size ≤ gb447)); have n3_ := Aside0.mk ((by rw [hg]; exact (below_size (by repeat (first | (with_reducible first | exact HB.out | apply below_alloc | apply pw_below_drewN | apply below_drew1) | exact HB.out))) : w.heap.size ≤ gb447)); clear HB; have HB := n0_; have BK447 := n1_; have GW447 := n2_; have GE447 := n3_; clear n0_ n1_ n2_ n3_; clear hb hbox hg) | ((with_reducible refine gate_dst (N := 5) rfl ?_); (try (refine gate_guard (by rfl) ?_; dsimp only)); refine box_event ?hg (N := 5) ?hd (cs := #[.int .i64 a2_0, .int .i64 a2_1, .string a2_2]) (t := 51) ?hr ?_; (case hd => rfl); (case hg => rfl); (case hr => first | (go_simp; done) | (go_simp; rfl)); intro gb448 hg w13 hbox hb; have n0_ := Aside0.mk (blk_below (g := gb447) (o := .cells #[.int .i64 a1_0, .int .i64 a1_1, .string a1_2] 51 (0, 0)) (by (with_reducible repeat (first | refine blk_drewN ?_ _ | refine blk_drew ?_ | refine blk_alloc ?_ _)); exact BK447.out) hb); have n1_ := Aside0.mk (below_step (by repeat (first | (with_reducible first | exact HB.out | apply below_alloc | apply pw_below_drewN | apply below_drew1 | refine below_set ?_ GE447.out) | exact HB.out)) hb); have n2_ := Aside0.mk (hbox); have n3_ := Aside0.mk ((by rw [hg]; exact (below_size (by repeat (first | (with_reducible first | exact HB.out | apply below_alloc | apply pw_below_drewN | apply below_drew1 | refine below_set ?_ GE447.out) | exact HB.out))) : w.heap.size ≤ gb448)); have n4_ := Aside0.mk ((by rw [hg]; exact (below_size (by repeat (first | (with_reducible first | exact HB.out | apply below_alloc | apply pw_below_drewN | apply below_drew1 | refine below_set ?_ GE447.out) | exact HB.out))) : w.heap.size ≤ gb448)); have n5_ := Aside0.mk ((by rw [hg]; exact Nat.ne_of_lt (blk_lt (g := gb447) (o := .cells #[.int .i64 a1_0, .int .i64 a1_1, .string a1_2] 51 (0, 0)) (by (with_reducible repeat (first | refine blk_drewN ?_ _ | refine blk_drew ?_ | refine blk_alloc ?_ _)); exact BK447.out)) : gb447 ≠ gb448)); have n6_ := Aside0.mk ((by rw [hg]; exact Nat.ne_of_gt (blk_lt (g := gb447) (o := .cells #[.int .i64 a1_0, .int .i64 a1_1, .string a1_2] 51 (0, 0)) (by (with_reducible repeat (first | refine blk_drewN ?_ _ | refine blk_drew ?_ | refine blk_alloc ?_ _)); exact BK447.out)) : gb448 ≠ gb447)); clear BK447; clear HB; have BK447 := n0_; have HB := n1_; have BK448 := n2_; have GW448 := n3_; have GE448 := n4_; have NB447_448 := n5_; have NB448_447 := n6_; clear n0_ n1_ n2_ n3_ n4_ n5_ n6_; clear hb hbox hg) | ((with_reducible refine gate_callee (f := 11) rfl ?_); refine goesL_ (some 24) rfl rfl Tryz.func11 (by kernel_rfl) rfl #[] rfl (by (try simp only [List.map_toArray, List.map_cons, List.map_nil]); first | done | rfl | (simp only [List.length_drop, List.length_take]; rfl)) ?_; (with_reducible refine (madrigallaw01_sane.calls  true _ A4.out ?side1).mono ?_); (case side1 => exact GL.below HG.out (by repeat (first | (with_reducible first | exact HB.out | apply below_alloc | apply pw_below_drewN | apply below_drew1 | refine below_set ?_ GE447.out | refine below_set ?_ GE448.out) | exact HB.out))); rintro e w14 ⟨rfl, hb⟩; refine ⟨_, rfl, ?_⟩; have n0_ := Aside0.mk (blk_below (g := gb447) (o := .cells #[.int .i64 a1_0, .int .i64 a1_1, .string a1_2] 51 (0, 0)) (by (with_reducible repeat (first | refine blk_drewN ?_ _ | refine blk_drew ?_ | refine blk_alloc ?_ _)); exact BK447.out) hb); have n1_ := Aside0.mk (blk_below (g := gb448) (o := .cells #[.int .i64 a2_0, .int .i64 a2_1, .string a2_2] 51 (0, 0)) (by (with_reducible repeat (first | refine blk_drewN ?_ _ | refine blk_drew ?_ | refine blk_alloc ?_ _)); exact BK448.out) hb); have n2_ := Aside0.mk (below_step (by repeat (first | (with_reducible first | exact HB.out | apply below_alloc | apply pw_below_drewN | apply below_drew1 | refine below_set ?_ GE447.out | refine below_set ?_ GE448.out) | exact HB.out)) hb); clear BK447; clear BK448; clear HB; have BK447 := n0_; have BK448 := n1_; have HB := n2_; clear n0_ n1_ n2_; (try clear hb); (try clear hb2); (try clear hk); (try clear hi); have hnb15 := NB447_448.out; have hnc15 := NB448_447.out; have hcz16_0 : w14.cell? ⟨gb447, 0, none⟩ = some (.int .i64 a1_0) := (blk_cell BK447.out 0).trans rfl; have hcz16_1 : w14.cell? ⟨gb447, 1, none⟩ = some (.int .i64 a1_1) := (blk_cell BK447.out 1).trans rfl; have hcz16_2 : w14.cell? ⟨gb447, 2, none⟩ = some (.string a1_2) := (blk_cell BK447.out 2).trans rfl; have hfz16_0 := blk_frozen BK447.out 0; have hfz16_1 := blk_frozen BK447.out 1; have hfz16_2 := blk_frozen BK447.out 2; have hcz17_0 : w14.cell? ⟨gb448, 0, none⟩ = some (.int .i64 a2_0) := (blk_cell BK448.out 0).trans rfl; have hcz17_1 : w14.cell? ⟨gb448, 1, none⟩ = some (.int .i64 a2_1) := (blk_cell BK448.out 1).trans rfl; have hcz17_2 : w14.cell? ⟨gb448, 2, none⟩ = some (.string a2_2) := (blk_cell BK448.out 2).trans rfl; have hfz17_0 := blk_frozen BK448.out 0; have hfz17_1 := blk_frozen BK448.out 1; have hfz17_2 := blk_frozen BK448.out 2) | ((with_reducible refine gate_dst (N := 31) rfl ?_); (try (refine gate_guard (by rfl) ?_; dsimp only)); refine Kd.R_lit Kd.string _ 9 ?hg (N := 31) ?hd (xs := ([a0, a1_2, a2_2] : List ByteArray)) (inner := [.string a0, .string a1_2, .string a2_2]) (ok := fun _ => True) (okp := fun _ => True) ?hr ?hp (fun _ hk => hk) trivial (Below.refl _ _) (Nat.le_refl _) (by simp) ?_; (case hd => rfl); (case hg => rfl); (case hr => first | (go_simp; done) | (go_simp; rfl)); (case hp => exact (Reps.one (show Kd.M Kd.string _ _ _ a0 [.string a0] from rfl) (Reps.one (show Kd.M Kd.string _ _ _ a1_2 [.string a1_2] from rfl) (Reps.one (show Kd.M Kd.string _ _ _ a2_2 [.string a2_2] from rfl) (Reps.none _ _))))); intro v451 w18 ho19 hb hg_ hnew_; clear hg_ hnew_; (first | rw [← Ny450.out] at ho19 | (simp only [Int.reduceToNat] at ho19; rw [← Ny450.out] at ho19)); have n0_ := Aside0.mk (Kd.R_lower ho19 (below_size (by repeat (first | (with_reducible first | exact HB.out | apply below_alloc | apply pw_below_drewN | apply below_drew1 | refine below_set ?_ GE447.out | refine below_set ?_ GE448.out) | exact HB.out)))); have n1_ := Aside0.mk (blk_below (g := gb447) (o := .cells #[.int .i64 a1_0, .int .i64 a1_1, .string a1_2] 51 (0, 0)) (by (with_reducible repeat (first | refine blk_drewN ?_ _ | refine blk_drew ?_ | refine blk_alloc ?_ _)); exact BK447.out) hb); have n2_ := Aside0.mk (blk_below (g := gb448) (o := .cells #[.int .i64 a2_0, .int .i64 a2_1, .string a2_2] 51 (0, 0)) (by (with_reducible repeat (first | refine blk_drewN ?_ _ | refine blk_drew ?_ | refine blk_alloc ?_ _)); exact BK448.out) hb); have n3_ := Aside0.mk (below_step (by repeat (first | (with_reducible first | exact HB.out | apply below_alloc | apply pw_below_drewN | apply below_drew1 | refine below_set ?_ GE447.out | refine below_set ?_ GE448.out) | exact HB.out)) hb); clear BK447; clear BK448; clear HB; have HO452 := n0_; have BK447 := n1_; have BK448 := n2_; have HB := n3_; clear n0_ n1_ n2_ n3_; clear hb ho19; obtain ⟨Ao20, co20, eo20⟩ := Kd.R_slice HO452.out; subst eo20) | ((with_reducible refine gate_callee (f := 12) rfl ?_); refine goesL_ (some 32) rfl rfl Tryz.func12 (by kernel_rfl) rfl #[.slice Ao20 y450.length co20] rfl (by (try simp only [List.map_toArray, List.map_cons, List.map_nil]); first | done | rfl | (simp only [List.length_drop, List.length_take]; rfl)) ?_; (with_reducible refine (madrigallaw01_short.calls k _ _ y450 true _ ?side1 ?side2 A6.out).mono ?_); (case side1 => repeat (first | exact (Kd.R_reads' HO452.out).2.2 | (with_reducible refine Kd.C_alloc ?_ _) | (with_reducible refine Kd.C_drewN ?_ _) | (with_reducible refine Kd.C_drew ?_))); (case side2 => exact (Kd.R_reads' HO452.out).2.1); rintro e w' ⟨rfl, ⟨nd, rfl⟩⟩; refine ⟨_, rfl, ?_⟩) | ((with_reducible refine gate_callee (f := 13) rfl ?_); refine goesL_ (some 36) rfl rfl Tryz.func13 (by kernel_rfl) rfl #[.string a0] rfl (by (try simp only [List.map_toArray, List.map_cons, List.map_nil]); first | done | rfl | (simp only [List.length_drop, List.length_take]; rfl)) ?_; (with_reducible refine (lex_Tokens.calls a0 t454 t455 t456 _ A8.out ?side1).mono ?_); (case side1 => exact GL.below HG.out (by repeat (first | (with_reducible first | exact HB.out | apply below_alloc | apply pw_below_drewN | apply below_drew1 | refine below_set ?_ GE447.out | refine below_set ?_ GE448.out) | exact HB.out))); rintro e w21 ⟨v457, rfl, ho0, hb⟩; refine ⟨_, rfl, ?_⟩; have n0_ := Aside0.mk (Kd.R_below (by (with_reducible repeat (first | apply Kd.R_alloc | apply Kd.R_drewN | apply Kd.R_drew)); exact HO452.out) hb); have n1_ := Aside0.mk (Kd.R_lower ho0 (below_size (by repeat (first | (with_reducible first | exact HB.out | apply below_alloc | apply pw_below_drewN | apply below_drew1 | refine below_set ?_ GE447.out | refine below_set ?_ GE448.out) | exact HB.out)))); have n2_ := Aside0.mk (blk_below (g := gb447) (o := .cells #[.int .i64 a1_0, .int .i64 a1_1, .string a1_2] 51 (0, 0)) (by (with_reducible repeat (first | refine blk_drewN ?_ _ | refine blk_drew ?_ | refine blk_alloc ?_ _)); exact BK447.out) hb); have n3_ := Aside0.mk (blk_below (g := gb448) (o := .cells #[.int .i64 a2_0, .int .i64 a2_1, .string a2_2] 51 (0, 0)) (by (with_reducible repeat (first | refine blk_drewN ?_ _ | refine blk_drew ?_ | refine blk_alloc ?_ _)); exact BK448.out) hb); have n4_ := Aside0.mk (below_step (by repeat (first | (with_reducible first | exact HB.out | apply below_alloc | apply pw_below_drewN | apply below_drew1 | refine below_set ?_ GE447.out | refine below_set ?_ GE448.out) | exact HB.out)) hb); clear HO452; clear BK447; clear BK448; clear HB; have HO452 := n0_; have HO458 := n1_; have BK447 := n2_; have BK448 := n3_; have HB := n4_; clear n0_ n1_ n2_ n3_ n4_; (try clear hb); (try clear hb2); (try clear hk); (try clear hi); (try clear ho0); have hcz22_0 : w21.cell? ⟨gb447, 0, none⟩ = some (.int .i64 a1_0) := (blk_cell BK447.out 0).trans rfl; have hcz22_1 : w21.cell? ⟨gb447, 1, none⟩ = some (.int .i64 a1_1) := (blk_cell BK447.out 1).trans rfl; have hcz22_2 : w21.cell? ⟨gb447, 2, none⟩ = some (.string a1_2) := (blk_cell BK447.out 2).trans rfl; have hfz22_0 := blk_frozen BK447.out 0; have hfz22_1 := blk_frozen BK447.out 1; have hfz22_2 := blk_frozen BK447.out 2; obtain ⟨Ao23, co23, eo23⟩ := Kd.R_slice HO458.out; subst eo23) | ((with_reducible refine gate_callee (f := 37) rfl ?_); refine goesL_ (some 46) rfl rfl Tryz.func37 (by kernel_rfl) rfl #[.string a0, .slice Ao23 t454.length co23, .agg #[.int .i64 a1_0, .int .i64 a1_1, .string a1_2]] rfl (by (try simp only [List.map_toArray, List.map_cons, List.map_nil]); first | done | rfl | (simp only [List.length_drop, List.length_take]; rfl)) ?_; (with_reducible refine (lex_Change.calls k a0 _ _ t454 a1_0 a1_1 a1_2 t459 t460 t463 t464 _ ?side1 ?side2 A10.out ?side3).mono ?_); (case side1 => repeat (first | exact (Kd.R_reads' HO458.out).2.2 | (with_reducible refine Kd.C_alloc ?_ _) | (with_reducible refine Kd.C_drewN ?_ _) | (with_reducible refine Kd.C_drew ?_))); (case side2 => exact (Kd.R_reads' HO458.out).2.1); (case side3 => exact GL.below HG.out (by repeat (first | (with_reducible first | exact HB.out | apply below_alloc | apply pw_below_drewN | apply below_drew1 | refine below_set ?_ GE447.out | refine below_set ?_ GE448.out) | exact HB.out))); rintro e w24 ⟨v461, rfl, ho0, hb⟩; refine ⟨_, rfl, ?_⟩; have n0_ := Aside0.mk (Kd.R_below (by (with_reducible repeat (first | apply Kd.R_alloc | apply Kd.R_drewN | apply Kd.R_drew)); exact HO452.out) hb); have n1_ := Aside0.mk (Kd.R_elder' (by (with_reducible repeat (first | apply Kd.R_alloc | apply Kd.R_drewN | apply Kd.R_drew)); exact HO458.out) (Kd.R_base ho0) hb); have n2_ := Aside0.mk (Kd.R_lower (Kd.R_new' ho0 (Kd.R_lt (by (with_reducible repeat (first | apply Kd.R_alloc | apply Kd.R_drewN | apply Kd.R_drew)); exact HO458.out))) (below_size (by repeat (first | (with_reducible first | exact HB.out | apply below_alloc | apply pw_below_drewN | apply below_drew1 | refine below_set ?_ GE447.out | refine below_set ?_ GE448.out) | exact HB.out)))); have n3_ := Aside0.mk (blk_below (g := gb447) (o := .cells #[.int .i64 a1_0, .int .i64 a1_1, .string a1_2] 51 (0, 0)) (by (with_reducible repeat (first | refine blk_drewN ?_ _ | refine blk_drew ?_ | refine blk_alloc ?_ _)); exact BK447.out) hb); have n4_ := Aside0.mk (blk_below (g := gb448) (o := .cells #[.int .i64 a2_0, .int .i64 a2_1, .string a2_2] 51 (0, 0)) (by (with_reducible repeat (first | refine blk_drewN ?_ _ | refine blk_drew ?_ | refine blk_alloc ?_ _)); exact BK448.out) hb); have n5_ := Aside0.mk (below_step (by repeat (first | (with_reducible first | exact HB.out | apply below_alloc | apply pw_below_drewN | apply below_drew1 | refine below_set ?_ GE447.out | refine below_set ?_ GE448.out) | exact HB.out)) hb); clear HO452; clear HO458; clear BK447; clear BK448; clear HB; have HO452 := n0_; have HO458 := n1_; have HO462 := n2_; have BK447 := n3_; have BK448 := n4_; have HB := n5_; clear n0_ n1_ n2_ n3_ n4_ n5_; (try clear hb); (try clear hb2); (try clear hk); (try clear hi); (try clear ho0)))
    (try simp only [Act.put, List.setIfInBounds_toArray, List.set_cons_zero, List.set_cons_succ])
    go_cut [60] (fun v60 wc => ∃ (kq : Nat) (x60_10 : Bool), v60 = .bool x60_10 ∧ Aside0 (madrigallaw01_LexEdited.j0 kq a0 t454 t464 t459 t460 x60_10 a1_0 a1_1 a1_2 a2_0 a2_1 a2_2 = some r) ∧ Aside0 (kq ≤ k) ∧ Aside0 (Kd.R k38 38 wc w.heap.size (fun k_ => some k_ ≠ (v461 : Value).ownBlock) (.slice Ao23 t454.length co23) t454) ∧ Aside0 (Kd.R k38 38 wc w.heap.size (fun k_ => some k_ ≠ ((.slice Ao23 t454.length co23) : Value).ownBlock) v461 t460) ∧ Aside0 (wc.heap[gb447]? = some (.cells #[.int .i64 a1_0, .int .i64 a1_1, .string a1_2] 51 (0, 0))) ∧ Aside0 (wc.heap[gb448]? = some (.cells #[.int .i64 a2_0, .int .i64 a2_1, .string a2_2] 51 (0, 0))) ∧ Aside0 (Below w.heap.size w wc))
    case first =>
     have H := HC11.out
     clear HC11
     by_cases c25 : t464 = 1
     ·rw [if_pos c25] at H
      have c25b0 : (t464 == 1) = true := beq_iff_eq.mpr c25
      have c25b1 : (t464 != 1) = false := bne_eq_false_iff_eq.mpr c25
      clear c25
      (first | rw [c25b0] | (simp only [i64_w, i32_w]; rw [c25b0]) | skip)
      have H' := Aside0.mk H
      clear H
      go_wp2
      go_meet
      case rel => exact ⟨_, (true), (by first | rfl | (simp; done) | (simp [*]; done)), H', ⟨by first | omega | exact Nat.le_refl _⟩, ⟨by (with_reducible repeat (first | apply Kd.R_alloc | apply Kd.R_drewN | apply Kd.R_drew)); exact Kd.R_mono HO458.out (fun _ hk => hk.2)⟩, ⟨by (with_reducible repeat (first | apply Kd.R_alloc | apply Kd.R_drewN | apply Kd.R_drew)); exact Kd.R_mono HO462.out (fun _ hk => hk.2)⟩, ⟨by (with_reducible repeat (first | refine blk_drewN ?_ _ | refine blk_drew ?_ | refine blk_alloc ?_ _)); exact BK447.out⟩, ⟨by (with_reducible repeat (first | refine blk_drewN ?_ _ | refine blk_drew ?_ | refine blk_alloc ?_ _)); exact BK448.out⟩, ⟨by repeat (first | (with_reducible first | exact HB.out | apply below_alloc | apply pw_below_drewN | apply below_drew1 | refine below_set ?_ GE447.out | refine below_set ?_ GE448.out) | exact HB.out)⟩⟩
     ·rw [if_neg c25] at H
      have c25b0 : (t464 == 1) = false := beq_eq_false_iff_ne.mpr c25
      have c25b1 : (t464 != 1) = true := bne_iff_ne.mpr c25
      (first | rw [c25b0] | (simp only [i64_w, i32_w]; rw [c25b0]) | skip)
      by_cases c26 : t464 = 10
      ·rw [if_pos c26] at H
       have c26b0 : (t464 == 10) = true := beq_iff_eq.mpr c26
       have c26b1 : (t464 != 10) = false := bne_eq_false_iff_eq.mpr c26
       clear c26
       have H' := Aside0.mk H
       clear H
       go_wp2
       go_meet
       case rel => exact ⟨_, (true), (by first | rfl | (simp; done) | (simp [*]; done)), H', ⟨by first | omega | exact Nat.le_refl _⟩, ⟨by (with_reducible repeat (first | apply Kd.R_alloc | apply Kd.R_drewN | apply Kd.R_drew)); exact Kd.R_mono HO458.out (fun _ hk => hk.2)⟩, ⟨by (with_reducible repeat (first | apply Kd.R_alloc | apply Kd.R_drewN | apply Kd.R_drew)); exact Kd.R_mono HO462.out (fun _ hk => hk.2)⟩, ⟨by (with_reducible repeat (first | refine blk_drewN ?_ _ | refine blk_drew ?_ | refine blk_alloc ?_ _)); exact BK447.out⟩, ⟨by (with_reducible repeat (first | refine blk_drewN ?_ _ | refine blk_drew ?_ | refine blk_alloc ?_ _)); exact BK448.out⟩, ⟨by repeat (first | (with_reducible first | exact HB.out | apply below_alloc | apply pw_below_drewN | apply below_drew1 | refine below_set ?_ GE447.out | refine below_set ?_ GE448.out) | exact HB.out)⟩⟩
      ·rw [if_neg c26] at H
       have c26b0 : (t464 == 10) = false := beq_eq_false_iff_ne.mpr c26
       have c26b1 : (t464 != 10) = true := bne_iff_ne.mpr c26
       have H' := Aside0.mk H
       clear H
       go_wp2
       go_meet
       case rel => exact ⟨_, ((t464 == 2)), (by first | rfl | (simp; done) | (simp [*]; done)), H', ⟨by first | omega | exact Nat.le_refl _⟩, ⟨by (with_reducible repeat (first | apply Kd.R_alloc | apply Kd.R_drewN | apply Kd.R_drew)); exact Kd.R_mono HO458.out (fun _ hk => hk.2)⟩, ⟨by (with_reducible repeat (first | apply Kd.R_alloc | apply Kd.R_drewN | apply Kd.R_drew)); exact Kd.R_mono HO462.out (fun _ hk => hk.2)⟩, ⟨by (with_reducible repeat (first | refine blk_drewN ?_ _ | refine blk_drew ?_ | refine blk_alloc ?_ _)); exact BK447.out⟩, ⟨by (with_reducible repeat (first | refine blk_drewN ?_ _ | refine blk_drew ?_ | refine blk_alloc ?_ _)); exact BK448.out⟩, ⟨by repeat (first | (with_reducible first | exact HB.out | apply below_alloc | apply pw_below_drewN | apply below_drew1 | refine below_set ?_ GE447.out | refine below_set ?_ GE448.out) | exact HB.out)⟩⟩
    case rest =>
     clear HC11
     try clear c1
     try clear c2
     try clear p2
     try clear c3
     try clear c5
     try clear c7
     try clear c9
     try clear c9b0
     try clear c9b1
     try clear c10
     try clear c11
     try clear c12
     try clear c13
     try clear c15
     try clear c25
     try clear c25b0
     try clear c25b1
     try clear c26
     try clear c26b0
     try clear c26b1
     try clear hcz16_0
     try clear hcz16_1
     try clear hcz16_2
     try clear hcz17_0
     try clear hcz17_1
     try clear hcz17_2
     try clear hcz22_0
     try clear hcz22_1
     try clear hcz22_2
     try clear hfz16_0
     try clear hfz16_1
     try clear hfz16_2
     try clear hfz17_0
     try clear hfz17_1
     try clear hfz17_2
     try clear hfz22_0
     try clear hfz22_1
     try clear hfz22_2
     obtain ⟨kq, x60_10, rfl, HA, HJ10, HO_7, HO_11, BK447, BK448, HB⟩ := hcut
     cases kq with
     | zero => exact absurd HA.out (by simp [madrigallaw01_LexEdited.j0])
     | succ kj10 =>
      have H := HA.out
      clear HA
      simp only [madrigallaw01_LexEdited.j0] at H
      by_cases c27 : x60_10 = true
      ·subst c27
       have H1 : (some ((t460.length : Int) == 0)) = some r := by rw [if_pos rfl] at H; exact H
       clear H
       have H := H1
       clear H1
       obtain rfl := Option.some.inj H
       obtain ⟨Ao28, co28, eo28⟩ := Kd.R_slice HO_11.out
       subst eo28
       go_wp2
       go_ret
       exact ⟨by first | rfl | (simp [errW_none, errW_some] <;> rfl) | (simp [*, errW_none, errW_some] <;> rfl), by repeat (first | (with_reducible first | exact HB.out | apply below_alloc | apply pw_below_drewN | apply below_drew1 | refine below_set ?_ GE447.out | refine below_set ?_ GE448.out) | exact HB.out)⟩
      ·as_aux_lemma =>
        replace c27 := Bool.eq_false_iff.mpr c27
        subst c27
        have H1 : (if t464 = 0 then (if a1_0 < 0 then (madrigallaw01_LexEdited.j1 kj10 a0 t454 t459 t460 true a1_0 a1_1 a1_2 a2_0 a2_1 a2_2) else (if a1_1 < 0 then (madrigallaw01_LexEdited.j1 kj10 a0 t454 t459 t460 true a1_0 a1_1 a1_2 a2_0 a2_1 a2_2) else (if a1_0 > (a0.size : Int) then (madrigallaw01_LexEdited.j1 kj10 a0 t454 t459 t460 true a1_0 a1_1 a1_2 a2_0 a2_1 a2_2) else (madrigallaw01_LexEdited.j1 kj10 a0 t454 t459 t460 (decide (a1_1 > (wrap64 ((a0.size : Int) - a1_0)))) a1_0 a1_1 a1_2 a2_0 a2_1 a2_2)))) else (madrigallaw01_LexEdited.j1 kj10 a0 t454 t459 t460 true a1_0 a1_1 a1_2 a2_0 a2_1 a2_2)) = some r := by rw [if_neg (show ¬ (false = true) by decide)] at H; exact H
        clear H
        have H := H1
        clear H1
        have HC29 := Aside0.mk H
        clear H
        go_upto_region 11 with (fail)
        go_cut [92] (fun v92 wc => ∃ (kq : Nat) (x92_28 : Bool), v92 = .bool x92_28 ∧ Aside0 (madrigallaw01_LexEdited.j1 kq a0 t454 t459 t460 x92_28 a1_0 a1_1 a1_2 a2_0 a2_1 a2_2 = some r) ∧ Aside0 (kq ≤ kj10) ∧ Aside0 (Kd.R k38 38 wc w.heap.size (fun k_ => some k_ ≠ (v461 : Value).ownBlock) (.slice Ao23 t454.length co23) t454) ∧ Aside0 (Kd.R k38 38 wc w.heap.size (fun k_ => some k_ ≠ ((.slice Ao23 t454.length co23) : Value).ownBlock) v461 t460) ∧ Aside0 (wc.heap[gb447]? = some (.cells #[.int .i64 a1_0, .int .i64 a1_1, .string a1_2] 51 (0, 0))) ∧ Aside0 (wc.heap[gb448]? = some (.cells #[.int .i64 a2_0, .int .i64 a2_1, .string a2_2] 51 (0, 0))) ∧ Aside0 (Below w.heap.size w wc))
        case first =>
         have H := HC29.out
         clear HC29
         by_cases c30 : t464 = 0
         ·rw [if_pos c30] at H
          have c30b0 : (t464 == 0) = true := beq_iff_eq.mpr c30
          have c30b1 : (t464 != 0) = false := bne_eq_false_iff_eq.mpr c30
          clear c30
          (first | rw [c30b0] | (simp only [i64_w, i32_w]; rw [c30b0]) | skip)
          by_cases c31 : a1_0 < 0
          ·rw [if_pos c31] at H
           have c31b0 : decide (a1_0 < 0) = true := decide_eq_true c31
           clear c31
           have H' := Aside0.mk H
           clear H
           have hnb32 := NB447_448.out
           have hnc32 := NB448_447.out
           have hcz33_0 : wc.cell? ⟨gb447, 0, none⟩ = some (.int .i64 a1_0) := (blk_cell BK447.out 0).trans rfl
           have hcz33_1 : wc.cell? ⟨gb447, 1, none⟩ = some (.int .i64 a1_1) := (blk_cell BK447.out 1).trans rfl
           have hcz33_2 : wc.cell? ⟨gb447, 2, none⟩ = some (.string a1_2) := (blk_cell BK447.out 2).trans rfl
           have hfz33_0 := blk_frozen BK447.out 0
           have hfz33_1 := blk_frozen BK447.out 1
           have hfz33_2 := blk_frozen BK447.out 2
           go_wp2
           go_meet
           case rel => exact ⟨_, (true), (by first | rfl | (simp; done) | (simp [*]; done)), H', ⟨by have := HJ10.out; first | omega | exact Nat.le_refl _⟩, ⟨by (with_reducible repeat (first | apply Kd.R_alloc | apply Kd.R_drewN | apply Kd.R_drew)); exact HO_7.out⟩, ⟨by (with_reducible repeat (first | apply Kd.R_alloc | apply Kd.R_drewN | apply Kd.R_drew)); exact HO_11.out⟩, ⟨by (with_reducible repeat (first | refine blk_drewN ?_ _ | refine blk_drew ?_ | refine blk_alloc ?_ _)); exact BK447.out⟩, ⟨by (with_reducible repeat (first | refine blk_drewN ?_ _ | refine blk_drew ?_ | refine blk_alloc ?_ _)); exact BK448.out⟩, ⟨by repeat (first | (with_reducible first | exact HB.out | apply below_alloc | apply pw_below_drewN | apply below_drew1 | refine below_set ?_ GE447.out | refine below_set ?_ GE448.out) | exact HB.out)⟩⟩
          ·rw [if_neg c31] at H
           have c31b0 : decide (a1_0 < 0) = false := decide_eq_false c31
           clear c31
           by_cases c34 : a1_1 < 0
           ·rw [if_pos c34] at H
            have c34b0 : decide (a1_1 < 0) = true := decide_eq_true c34
            clear c34
            have H' := Aside0.mk H
            clear H
            have hnb35 := NB447_448.out
            have hnc35 := NB448_447.out
            have hcz36_0 : wc.cell? ⟨gb447, 0, none⟩ = some (.int .i64 a1_0) := (blk_cell BK447.out 0).trans rfl
            have hcz36_1 : wc.cell? ⟨gb447, 1, none⟩ = some (.int .i64 a1_1) := (blk_cell BK447.out 1).trans rfl
            have hcz36_2 : wc.cell? ⟨gb447, 2, none⟩ = some (.string a1_2) := (blk_cell BK447.out 2).trans rfl
            have hfz36_0 := blk_frozen BK447.out 0
            have hfz36_1 := blk_frozen BK447.out 1
            have hfz36_2 := blk_frozen BK447.out 2
            go_wp2
            go_meet
            case rel => exact ⟨_, (true), (by first | rfl | (simp; done) | (simp [*]; done)), H', ⟨by have := HJ10.out; first | omega | exact Nat.le_refl _⟩, ⟨by (with_reducible repeat (first | apply Kd.R_alloc | apply Kd.R_drewN | apply Kd.R_drew)); exact HO_7.out⟩, ⟨by (with_reducible repeat (first | apply Kd.R_alloc | apply Kd.R_drewN | apply Kd.R_drew)); exact HO_11.out⟩, ⟨by (with_reducible repeat (first | refine blk_drewN ?_ _ | refine blk_drew ?_ | refine blk_alloc ?_ _)); exact BK447.out⟩, ⟨by (with_reducible repeat (first | refine blk_drewN ?_ _ | refine blk_drew ?_ | refine blk_alloc ?_ _)); exact BK448.out⟩, ⟨by repeat (first | (with_reducible first | exact HB.out | apply below_alloc | apply pw_below_drewN | apply below_drew1 | refine below_set ?_ GE447.out | refine below_set ?_ GE448.out) | exact HB.out)⟩⟩
           ·rw [if_neg c34] at H
            have c34b0 : decide (a1_1 < 0) = false := decide_eq_false c34
            clear c34
            by_cases c37 : a1_0 > (a0.size : Int)
            ·rw [if_pos c37] at H
             have c37b0 : decide ((a0.size : Int) < a1_0) = true := decide_eq_true c37
             clear c37
             have H' := Aside0.mk H
             clear H
             have hnb38 := NB447_448.out
             have hnc38 := NB448_447.out
             have hcz39_0 : wc.cell? ⟨gb447, 0, none⟩ = some (.int .i64 a1_0) := (blk_cell BK447.out 0).trans rfl
             have hcz39_1 : wc.cell? ⟨gb447, 1, none⟩ = some (.int .i64 a1_1) := (blk_cell BK447.out 1).trans rfl
             have hcz39_2 : wc.cell? ⟨gb447, 2, none⟩ = some (.string a1_2) := (blk_cell BK447.out 2).trans rfl
             have hfz39_0 := blk_frozen BK447.out 0
             have hfz39_1 := blk_frozen BK447.out 1
             have hfz39_2 := blk_frozen BK447.out 2
             go_wp2
             go_meet
             case rel => exact ⟨_, (true), (by first | rfl | (simp; done) | (simp [*]; done)), H', ⟨by have := HJ10.out; first | omega | exact Nat.le_refl _⟩, ⟨by (with_reducible repeat (first | apply Kd.R_alloc | apply Kd.R_drewN | apply Kd.R_drew)); exact HO_7.out⟩, ⟨by (with_reducible repeat (first | apply Kd.R_alloc | apply Kd.R_drewN | apply Kd.R_drew)); exact HO_11.out⟩, ⟨by (with_reducible repeat (first | refine blk_drewN ?_ _ | refine blk_drew ?_ | refine blk_alloc ?_ _)); exact BK447.out⟩, ⟨by (with_reducible repeat (first | refine blk_drewN ?_ _ | refine blk_drew ?_ | refine blk_alloc ?_ _)); exact BK448.out⟩, ⟨by repeat (first | (with_reducible first | exact HB.out | apply below_alloc | apply pw_below_drewN | apply below_drew1 | refine below_set ?_ GE447.out | refine below_set ?_ GE448.out) | exact HB.out)⟩⟩
            ·rw [if_neg c37] at H
             have c37b0 : decide ((a0.size : Int) < a1_0) = false := decide_eq_false c37
             clear c37
             have H' := Aside0.mk H
             clear H
             have hnb40 := NB447_448.out
             have hnc40 := NB448_447.out
             have hcz41_0 : wc.cell? ⟨gb447, 0, none⟩ = some (.int .i64 a1_0) := (blk_cell BK447.out 0).trans rfl
             have hcz41_1 : wc.cell? ⟨gb447, 1, none⟩ = some (.int .i64 a1_1) := (blk_cell BK447.out 1).trans rfl
             have hcz41_2 : wc.cell? ⟨gb447, 2, none⟩ = some (.string a1_2) := (blk_cell BK447.out 2).trans rfl
             have hfz41_0 := blk_frozen BK447.out 0
             have hfz41_1 := blk_frozen BK447.out 1
             have hfz41_2 := blk_frozen BK447.out 2
             go_wp2
             go_meet
             case rel => exact ⟨_, (decide (a1_1 > (wrap64 ((a0.size : Int) - a1_0)))), (by first | rfl | (simp; done) | (simp [*]; done)), H', ⟨by have := HJ10.out; first | omega | exact Nat.le_refl _⟩, ⟨by (with_reducible repeat (first | apply Kd.R_alloc | apply Kd.R_drewN | apply Kd.R_drew)); exact HO_7.out⟩, ⟨by (with_reducible repeat (first | apply Kd.R_alloc | apply Kd.R_drewN | apply Kd.R_drew)); exact HO_11.out⟩, ⟨by (with_reducible repeat (first | refine blk_drewN ?_ _ | refine blk_drew ?_ | refine blk_alloc ?_ _)); exact BK447.out⟩, ⟨by (with_reducible repeat (first | refine blk_drewN ?_ _ | refine blk_drew ?_ | refine blk_alloc ?_ _)); exact BK448.out⟩, ⟨by repeat (first | (with_reducible first | exact HB.out | apply below_alloc | apply pw_below_drewN | apply below_drew1 | refine below_set ?_ GE447.out | refine below_set ?_ GE448.out) | exact HB.out)⟩⟩
         ·rw [if_neg c30] at H
          have c30b0 : (t464 == 0) = false := beq_eq_false_iff_ne.mpr c30
          have c30b1 : (t464 != 0) = true := bne_iff_ne.mpr c30
          (first | rw [c30b0] | (simp only [i64_w, i32_w]; rw [c30b0]) | skip)
          have H' := Aside0.mk H
          clear H
          go_wp2
          go_meet
          case rel => exact ⟨_, (true), (by first | rfl | (simp; done) | (simp [*]; done)), H', ⟨by have := HJ10.out; first | omega | exact Nat.le_refl _⟩, ⟨by (with_reducible repeat (first | apply Kd.R_alloc | apply Kd.R_drewN | apply Kd.R_drew)); exact HO_7.out⟩, ⟨by (with_reducible repeat (first | apply Kd.R_alloc | apply Kd.R_drewN | apply Kd.R_drew)); exact HO_11.out⟩, ⟨by (with_reducible repeat (first | refine blk_drewN ?_ _ | refine blk_drew ?_ | refine blk_alloc ?_ _)); exact BK447.out⟩, ⟨by (with_reducible repeat (first | refine blk_drewN ?_ _ | refine blk_drew ?_ | refine blk_alloc ?_ _)); exact BK448.out⟩, ⟨by repeat (first | (with_reducible first | exact HB.out | apply below_alloc | apply pw_below_drewN | apply below_drew1 | refine below_set ?_ GE447.out | refine below_set ?_ GE448.out) | exact HB.out)⟩⟩
        case rest =>
         clear HC29
         try clear c1
         try clear c2
         try clear p2
         try clear c3
         try clear c4
         try clear c5
         try clear p6
         try clear c7
         try clear c9
         try clear c9b0
         try clear c9b1
         try clear c10
         try clear c11
         try clear c12
         try clear c13
         try clear c15
         try clear c25
         try clear c25b0
         try clear c25b1
         try clear c26
         try clear c26b0
         try clear c26b1
         try clear c27
         try clear c30
         try clear c30b0
         try clear c30b1
         try clear c31
         try clear c31b0
         try clear c32
         try clear c34
         try clear c34b0
         try clear c35
         try clear c37
         try clear c37b0
         try clear c38
         try clear c40
         try clear hcz16_0
         try clear hcz16_1
         try clear hcz16_2
         try clear hcz17_0
         try clear hcz17_1
         try clear hcz17_2
         try clear hcz22_0
         try clear hcz22_1
         try clear hcz22_2
         try clear hcz33_0
         try clear hcz33_1
         try clear hcz33_2
         try clear hcz36_0
         try clear hcz36_1
         try clear hcz36_2
         try clear hcz39_0
         try clear hcz39_1
         try clear hcz39_2
         try clear hcz41_0
         try clear hcz41_1
         try clear hcz41_2
         try clear hfz16_0
         try clear hfz16_1
         try clear hfz16_2
         try clear hfz17_0
         try clear hfz17_1
         try clear hfz17_2
         try clear hfz22_0
         try clear hfz22_1
         try clear hfz22_2
         try clear hfz33_0
         try clear hfz33_1
         try clear hfz33_2
         try clear hfz36_0
         try clear hfz36_1
         try clear hfz36_2
         try clear hfz39_0
         try clear hfz39_1
         try clear hfz39_2
         try clear hfz41_0
         try clear hfz41_1
         try clear hfz41_2
         try clear p2
         obtain ⟨kq, x92_28, rfl, HA, HJ28, HO_7, HO_11, BK447, BK448, HB⟩ := hcut
         cases kq with
         | zero => exact absurd HA.out (by simp [madrigallaw01_LexEdited.j1])
         | succ kj28 =>
          have H := HA.out
          clear HA
          simp only [madrigallaw01_LexEdited.j1] at H
          by_cases c42 : x92_28 = true
          ·subst c42
           have H1 : (some false) = some r := by rw [if_pos rfl] at H; exact H
           clear H
           have H := H1
           clear H1
           obtain rfl := Option.some.inj H
           go_wp2
           go_ret
           exact ⟨by first | rfl | (simp [errW_none, errW_some] <;> rfl) | (simp [*, errW_none, errW_some] <;> rfl), by repeat (first | (with_reducible first | exact HB.out | apply below_alloc | apply pw_below_drewN | apply below_drew1 | refine below_set ?_ GE447.out | refine below_set ?_ GE448.out) | exact HB.out)⟩
          ·as_aux_lemma =>
            replace c42 := Bool.eq_false_iff.mpr c42
            subst c42
            have H1 : (if 0 ≤ a1_0 then (if a1_0 ≤ (wrap64 (a1_0 + a1_1)) then (if (wrap64 (a1_0 + a1_1)) ≤ (a0.size : Int) then ((lex_Change.f kj28 t459 t460 a1_0 (a1_2.size : Int) (a0.extract (a1_0 : Int).toNat ((wrap64 (a1_0 + a1_1)) : Int).toNat)).bind fun bt465 => (if bt465.2.2.2 = 0 then (if bt465.1.toList = a0.toList then ((madrigalref01_Same.f kj28 bt465.2.1 t454).bind fun t471 => (madrigallaw01_LexEdited.j2 kj28 a0 t454 t459 t460 (!t471) a1_0 a1_1 a1_2 a2_0 a2_1 a2_2)) else (madrigallaw01_LexEdited.j2 kj28 a0 t454 t459 t460 true a1_0 a1_1 a1_2 a2_0 a2_1 a2_2)) else (madrigallaw01_LexEdited.j2 kj28 a0 t454 t459 t460 true a1_0 a1_1 a1_2 a2_0 a2_1 a2_2))) else (none)) else (none)) else (none)) = some r := by rw [if_neg (show ¬ (false = true) by decide)] at H; exact H
            clear H
            have H := H1
            clear H1
            by_cases c43 : 0 ≤ a1_0
            ·rw [if_pos c43] at H
             have c43b0 := eq_true c43
             have c43b1 : decide (0 ≤ a1_0) = true := decide_eq_true c43
             clear c43
             by_cases c44 : a1_0 ≤ (wrap64 (a1_0 + a1_1))
             ·rw [if_pos c44] at H
              have c44b0 := eq_true c44
              have c44b1 : decide (a1_0 ≤ (wrap64 (a1_0 + a1_1))) = true := decide_eq_true c44
              by_cases c45 : (wrap64 (a1_0 + a1_1)) ≤ (a0.size : Int)
              ·rw [if_pos c45] at H
               have c45b0 := eq_true c45
               have c45b1 : decide ((wrap64 (a1_0 + a1_1)) ≤ (a0.size : Int)) = true := decide_eq_true c45
               replace H := Option.bind_eq_some_iff.mp H
               obtain ⟨⟨t465, t466, t469, t470⟩, A460, H⟩ := H
               replace H : (if t470 = 0 then (if t465.toList = a0.toList then ((madrigalref01_Same.f kj28 t466 t454).bind fun t471 => (madrigallaw01_LexEdited.j2 kj28 a0 t454 t459 t460 (!t471) a1_0 a1_1 a1_2 a2_0 a2_1 a2_2)) else (madrigallaw01_LexEdited.j2 kj28 a0 t454 t459 t460 true a1_0 a1_1 a1_2 a2_0 a2_1 a2_2)) else (madrigallaw01_LexEdited.j2 kj28 a0 t454 t459 t460 true a1_0 a1_1 a1_2 a2_0 a2_1 a2_2)) = some r := H
               have A46 := Aside0.mk A460
               clear A460
               have HC47 := Aside0.mk H
               clear H
               try go_wp2
               replace HO_7 := Aside0.mk (Kd.R_drew HO_7.out)
               replace HO_11 := Aside0.mk (Kd.R_drew HO_11.out)
               replace BK447 := Aside0.mk (blk_drew BK447.out)
               replace BK448 := Aside0.mk (blk_drew BK448.out)
               replace HB := Aside0.mk (below_drew1 HB.out)
               obtain ⟨Ao49, co49, eo49⟩ := Kd.R_slice HO_11.out
               (first | subst eo49 | (injection eo49 with f1_ f2_ f3_; have f4_ := f1_.symm; have f5_ := f3_.symm; clear f1_ f2_ f3_; subst f4_; subst f5_))
               refine start_ (n := 27) (S := fun w' => w'.cell? ⟨gb447, 0, none⟩ = some (.int .i64 a1_0) ∧ w'.cell? ⟨gb447, 1, none⟩ = some (.int .i64 a1_1) ∧ w'.cell? ⟨gb447, 2, none⟩ = some (.string a1_2)) (ds := []) #[false, false, false, false, false, false, false, false, false, false, false, false, false, false, false, false, false, false, false, false, false, false, false, false, false, false, false] (by kernel_rfl) rfl rfl ⟨(blk_cell BK447.out 0).trans rfl, (blk_cell BK447.out 1).trans rfl, (blk_cell BK447.out 2).trans rfl⟩ (fun hHeld => ?_); refine with_tabW madrigallaw01_LexEdited.tab13 madrigallaw01_LexEdited.bits13 (fun HT_ HW_ => ?_)
               generalize wc.drew = w48 at HO_7 HO_11 BK447 BK448 HB hHeld ⊢
               refine pure_ (i := 0) (N := some 94) (v := ?_) (a' := ?_) #[true, false, false, false, false, false, false, false, false, false, false, false, false, false, false, false, false, false, false, false, false, false, false, false, false, false, false] rfl rfl (any_of HT_.out (by kernel_rfl)) (fun _ _ _ h => h) (Or.inl ⟨by rfl, ?_⟩) ?_ ?_
               rotate_left
               ·intro w'
                go_simp
                with_reducible rfl
               rotate_left
               ·simp only [qa_]
                rfl
               refine pure_ (i := 1) (N := some 95) (v := ?_) (a' := ?_) #[true, true, false, false, false, false, false, false, false, false, false, false, false, false, false, false, false, false, false, false, false, false, false, false, false, false, false] rfl rfl (any_of HT_.out (by kernel_rfl)) (fun _ _ _ h => h) (Or.inl ⟨by rfl, ?_⟩) ?_ ?_
               rotate_left
               ·intro w'
                go_simp
                with_reducible rfl
               rotate_left
               ·simp only [qa_]
                rfl
               refine pure_ (i := 2) (N := some 96) (v := ?_) (a' := ?_) #[true, true, true, false, false, false, false, false, false, false, false, false, false, false, false, false, false, false, false, false, false, false, false, false, false, false, false] rfl rfl (any_of HT_.out (by kernel_rfl)) (fun _ _ _ h => h) (Or.inl ⟨by rfl, ?_⟩) ?_ ?_
               rotate_left
               ·intro w'
                go_simp
                with_reducible rfl
               rotate_left
               ·simp only [qa_]
                rfl
               refine pure_ (i := 4) (N := some 98) (v := ?_) (a' := ?_) #[true, true, true, false, true, false, false, false, false, false, false, false, false, false, false, false, false, false, false, false, false, false, false, false, false, false, false] rfl rfl (any_of HT_.out (by kernel_rfl)) (fun _ _ _ h => h) (Or.inl ⟨by rfl, ?_⟩) ?_ ?_
               rotate_left
               ·intro w'
                go_simp
                with_reducible rfl
               rotate_left
               ·simp only [qa_]
                rfl
               refine pure_ (i := 7) (N := some 101) (v := ?_) (a' := ?_) #[true, true, true, false, true, false, false, true, false, false, false, false, false, false, false, false, false, false, false, false, false, false, false, false, false, false, false] rfl rfl (any_of HT_.out (by kernel_rfl)) (fun _ _ _ h => h) (Or.inl ⟨by rfl, ?_⟩) ?_ ?_
               rotate_left
               ·intro w'
                go_simp
                with_reducible rfl
               rotate_left
               ·simp only [qa_]
                rfl
               refine pure_ (i := 8) (N := some 102) (v := ?_) (a' := ?_) #[true, true, true, false, true, false, false, true, true, false, false, false, false, false, false, false, false, false, false, false, false, false, false, false, false, false, false] rfl rfl (any_of HT_.out (by kernel_rfl)) (fun _ _ _ h => h) (Or.inl ⟨by rfl, ?_⟩) ?_ ?_
               rotate_left
               ·intro w'
                go_simp
                with_reducible rfl
               rotate_left
               ·simp only [qa_]
                rfl
               refine pure_ (i := 10) (N := some 104) (v := ?_) (a' := ?_) #[true, true, true, false, true, false, false, true, true, false, true, false, false, false, false, false, false, false, false, false, false, false, false, false, false, false, false] rfl rfl (any_of HT_.out (by kernel_rfl)) (fun _ _ _ h => h) (Or.inl ⟨by rfl, ?_⟩) ?_ ?_
               rotate_left
               ·intro w'
                go_simp
                with_reducible rfl
               rotate_left
               ·simp only [qa_]
                rfl
               refine pure_ (i := 12) (N := some 106) (v := ?_) (a' := ?_) #[true, true, true, false, true, false, false, true, true, false, true, false, true, false, false, false, false, false, false, false, false, false, false, false, false, false, false] rfl rfl (any_of HT_.out (by kernel_rfl)) (fun _ _ _ h => h) (Or.inl ⟨by rfl, ?_⟩) ?_ ?_
               rotate_left
               ·intro w'
                go_simp
                with_reducible rfl
               rotate_left
               ·simp only [qa_]
                rfl
               refine take_ (i := 3) (N := some 97) (v := ?_) (a' := ?_) #[true, true, true, true, true, false, false, true, true, false, true, false, true, false, false, false, false, false, false, false, false, false, false, false, false, false, false] rfl rfl (take_ofW HT_.out HW_.out (by kernel_rfl)) (fun _ _ _ h => h) (Or.inl ⟨by rfl, ?_⟩) hHeld ?_ ?_
               rotate_left
               ·rintro w' ⟨s0, s1, s2⟩
                go_simp
                with_reducible rfl
               rotate_left
               ·simp only [qa_]
                rfl
               refine take_ (i := 5) (N := some 99) (v := ?_) (a' := ?_) #[true, true, true, true, true, true, false, true, true, false, true, false, true, false, false, false, false, false, false, false, false, false, false, false, false, false, false] rfl rfl (take_ofW HT_.out HW_.out (by kernel_rfl)) (fun _ _ _ h => h) (Or.inl ⟨by rfl, ?_⟩) hHeld ?_ ?_
               rotate_left
               ·rintro w' ⟨s0, s1, s2⟩
                go_simp
                with_reducible rfl
               rotate_left
               ·simp only [qa_]
                rfl
               refine pure_ (i := 6) (N := some 100) (v := ?_) (a' := ?_) #[true, true, true, true, true, true, true, true, true, false, true, false, true, false, false, false, false, false, false, false, false, false, false, false, false, false, false] rfl rfl (any_of HT_.out (by kernel_rfl)) (fun _ _ _ h => h) (Or.inl ⟨by rfl, ?_⟩) ?_ ?_
               rotate_left
               ·intro w'
                go_simp
                with_reducible rfl
               rotate_left
               ·simp only [qa_]
                rfl
               refine take_ (i := 9) (N := some 103) (v := ?_) (a' := ?_) #[true, true, true, true, true, true, true, true, true, true, true, false, true, false, false, false, false, false, false, false, false, false, false, false, false, false, false] rfl rfl (take_ofW HT_.out HW_.out (by kernel_rfl)) (fun _ _ _ h => h) (Or.inl ⟨by rfl, ?_⟩) hHeld ?_ ?_
               rotate_left
               ·rintro w' ⟨s0, s1, s2⟩
                go_simp
                with_reducible rfl
               rotate_left
               ·simp only [qa_]
                rfl
               refine take_ (i := 11) (N := some 105) (v := ?_) (a' := ?_) #[true, true, true, true, true, true, true, true, true, true, true, true, true, false, false, false, false, false, false, false, false, false, false, false, false, false, false] rfl rfl (take_ofW HT_.out HW_.out (by kernel_rfl)) (fun _ _ _ h => h) (Or.inl ⟨by rfl, ?_⟩) hHeld ?_ ?_
               rotate_left
               ·rintro w' ⟨s0, s1, s2⟩
                go_simp
                with_reducible rfl
               rotate_left
               ·simp only [qa_]
                rfl
               refine take_ (i := 13) (N := some 107) (v := ?_) (a' := ?_) #[true, true, true, true, true, true, true, true, true, true, true, true, true, true, false, false, false, false, false, false, false, false, false, false, false, false, false] rfl rfl (take_ofW HT_.out HW_.out (by kernel_rfl)) (fun _ _ _ h => h) (Or.inl ⟨by rfl, ?_⟩) hHeld ?_ ?_
               rotate_left
               ·rintro w' ⟨s0, s1, s2⟩
                go_simp
                with_reducible rfl
               rotate_left
               ·simp only [qa_]
                rfl
               refine pure_ (i := 14) (N := some 108) (v := ?_) (a' := ?_) #[true, true, true, true, true, true, true, true, true, true, true, true, true, true, true, false, false, false, false, false, false, false, false, false, false, false, false] rfl rfl (any_of HT_.out (by kernel_rfl)) (fun _ _ _ h => h) (Or.inl ⟨by rfl, ?_⟩) ?_ ?_
               rotate_left
               ·intro w'
                go_simp
                with_reducible rfl
               rotate_left
               ·simp only [qa_]
                rfl
               refine pure_ (i := 15) (N := some 109) (v := ?_) (a' := ?_) #[true, true, true, true, true, true, true, true, true, true, true, true, true, true, true, true, false, false, false, false, false, false, false, false, false, false, false] rfl rfl (any_of HT_.out (by kernel_rfl)) (fun _ _ _ h => h) (Or.inl ⟨by rfl, ?_⟩) ?_ ?_
               rotate_left
               ·intro w'
                go_simp
                with_reducible rfl
               rotate_left
               ·simp only [qa_]
                rfl
               refine pure_ (i := 16) (N := some 110) (v := ?_) (a' := ?_) #[true, true, true, true, true, true, true, true, true, true, true, true, true, true, true, true, true, false, false, false, false, false, false, false, false, false, false] rfl rfl (any_of HT_.out (by kernel_rfl)) (fun _ _ _ h => h) (Or.inl ⟨by rfl, ?_⟩) ?_ ?_
               rotate_left
               ·intro w'
                go_simp
                with_reducible rfl
               rotate_left
               ·simp only [qa_]
                rfl
               refine one_ (i := 17) (N := some 111) #[true, true, true, true, true, true, true, true, true, true, true, true, true, true, true, true, true, true, false, false, false, false, false, false, false, false, false] rfl rfl (one_of HT_.out (by kernel_rfl)) (by decide) (fun K hK => ?_)
               refine goes_ Tryz.func37 (by kernel_rfl) rfl #[.string t459, .slice Ao49 t460.length co49, .agg #[.int .i64 a1_0, .int .i64 (a1_2.size : Int), .string (a0.extract (a1_0 : Int).toNat ((wrap64 (a1_0 + a1_1)) : Int).toNat)]] (by rfl) rfl rfl (by (try simp only [List.map_toArray, List.map_cons, List.map_nil]); first | done | rfl | (simp only [List.length_drop, List.length_take]; rfl)) ?_
               with_reducible refine (lex_Change.calls kj28 t459 _ _ t460 a1_0 (a1_2.size : Int) (a0.extract (a1_0 : Int).toNat ((wrap64 (a1_0 + a1_1)) : Int).toNat) t465 t466 t469 t470 _ ?side1 ?side2 A46.out ?side3).mono ?_
               (case side1 => repeat (first | exact (Kd.R_reads' HO_11.out).2.2 | (with_reducible refine Kd.C_alloc ?_ _) | (with_reducible refine Kd.C_drewN ?_ _) | (with_reducible refine Kd.C_drew ?_)))
               (case side2 => exact (Kd.R_reads' HO_11.out).2.1)
               (case side3 => exact GL.below HG.out (by repeat (first | (with_reducible first | exact HB.out | apply below_alloc | apply pw_below_drewN | apply below_drew1 | refine below_set ?_ GE447.out | refine below_set ?_ GE448.out) | exact HB.out)))
               rintro e w50 ⟨v467, rfl, ho0, hb⟩
               refine ⟨_, rfl, ?_⟩
               have n0_ := Aside0.mk (Kd.R_elder' (by (with_reducible repeat (first | apply Kd.R_alloc | apply Kd.R_drewN | apply Kd.R_drew)); exact HO_7.out) (Kd.R_base ho0) hb)
               have n1_ := Aside0.mk (Kd.R_elder' (by (with_reducible repeat (first | apply Kd.R_alloc | apply Kd.R_drewN | apply Kd.R_drew)); exact HO_11.out) (Kd.R_base ho0) hb)
               have n2_ := Aside0.mk (Kd.R_lower (Kd.R_new' (Kd.R_new' ho0 (Kd.R_lt (by (with_reducible repeat (first | apply Kd.R_alloc | apply Kd.R_drewN | apply Kd.R_drew)); exact HO_7.out))) (Kd.R_lt (by (with_reducible repeat (first | apply Kd.R_alloc | apply Kd.R_drewN | apply Kd.R_drew)); exact HO_11.out))) (below_size (by repeat (first | (with_reducible first | exact HB.out | apply below_alloc | apply pw_below_drewN | apply below_drew1 | refine below_set ?_ GE447.out | refine below_set ?_ GE448.out) | exact HB.out))))
               have n3_ := Aside0.mk (blk_below (g := gb447) (o := .cells #[.int .i64 a1_0, .int .i64 a1_1, .string a1_2] 51 (0, 0)) (by (with_reducible repeat (first | refine blk_drewN ?_ _ | refine blk_drew ?_ | refine blk_alloc ?_ _)); exact BK447.out) hb)
               have n4_ := Aside0.mk (blk_below (g := gb448) (o := .cells #[.int .i64 a2_0, .int .i64 a2_1, .string a2_2] 51 (0, 0)) (by (with_reducible repeat (first | refine blk_drewN ?_ _ | refine blk_drew ?_ | refine blk_alloc ?_ _)); exact BK448.out) hb)
               have n5_ := Aside0.mk (below_step (by repeat (first | (with_reducible first | exact HB.out | apply below_alloc | apply pw_below_drewN | apply below_drew1 | refine below_set ?_ GE447.out | refine below_set ?_ GE448.out) | exact HB.out)) hb)
               clear HO_7
               clear HO_11
               clear BK447
               clear BK448
               clear HB
               have HO_7 := n0_
               have HO_11 := n1_
               have HO468 := n2_
               have BK447 := n3_
               have BK448 := n4_
               have HB := n5_
               clear n0_ n1_ n2_ n3_ n4_ n5_
               (try clear hb); (try clear hb2); (try clear hk); (try clear hi)
               (try clear ho0)
               refine hK.out _ _ ⟨(blk_cell BK447.out 0).trans rfl, (blk_cell BK447.out 1).trans rfl, (blk_cell BK447.out 2).trans rfl⟩ (fun hHeld => ?_)
               clear hK K
               refine norm_ (a' := ?_) ?_ ?_
               rotate_left
               ·show Act.put _ (some 111) _ = _
                simp only [qa_]
                rfl
               refine pure_ (i := 18) (N := some 93) (v := ?_) (a' := ?_) #[true, true, true, true, true, true, true, true, true, true, true, true, true, true, true, true, true, true, true, false, false, false, false, false, false, false, false] rfl rfl (any_of HT_.out (by kernel_rfl)) (fun _ _ _ h => h) (Or.inl ⟨by rfl, ?_⟩) ?_ ?_
               rotate_left
               ·intro w'
                go_simp
                with_reducible rfl
               rotate_left
               ·simp only [qa_]
                rfl
               refine pure_ (i := 19) (N := some 112) (v := ?_) (a' := ?_) #[true, true, true, true, true, true, true, true, true, true, true, true, true, true, true, true, true, true, true, true, false, false, false, false, false, false, false] rfl rfl (any_of HT_.out (by kernel_rfl)) (fun _ _ _ h => h) (Or.inl ⟨by rfl, ?_⟩) ?_ ?_
               rotate_left
               ·intro w'
                go_simp
                with_reducible rfl
               rotate_left
               ·simp only [qa_]
                rfl
               refine pure_ (i := 20) (N := some 113) (v := ?_) (a' := ?_) #[true, true, true, true, true, true, true, true, true, true, true, true, true, true, true, true, true, true, true, true, true, false, false, false, false, false, false] rfl rfl (any_of HT_.out (by kernel_rfl)) (fun _ _ _ h => h) (Or.inl ⟨by rfl, ?_⟩) ?_ ?_
               rotate_left
               ·intro w'
                go_simp
                with_reducible rfl
               rotate_left
               ·simp only [qa_]
                rfl
               refine pure_ (i := 21) (N := some 114) (v := ?_) (a' := ?_) #[true, true, true, true, true, true, true, true, true, true, true, true, true, true, true, true, true, true, true, true, true, true, false, false, false, false, false] rfl rfl (any_of HT_.out (by kernel_rfl)) (fun _ _ _ h => h) (Or.inl ⟨by rfl, ?_⟩) ?_ ?_
               rotate_left
               ·intro w'
                go_simp
                with_reducible rfl
               rotate_left
               ·simp only [qa_]
                rfl
               refine pure_ (i := 22) (N := some 115) (v := ?_) (a' := ?_) #[true, true, true, true, true, true, true, true, true, true, true, true, true, true, true, true, true, true, true, true, true, true, true, false, false, false, false] rfl rfl (any_of HT_.out (by kernel_rfl)) (fun _ _ _ h => h) (Or.inl ⟨by rfl, ?_⟩) ?_ ?_
               rotate_left
               ·intro w'
                go_simp
                with_reducible rfl
               rotate_left
               ·simp only [qa_]
                rfl
               refine pure_ (i := 23) (N := some 13) (v := ?_) (a' := ?_) #[true, true, true, true, true, true, true, true, true, true, true, true, true, true, true, true, true, true, true, true, true, true, true, true, false, false, false] rfl rfl (any_of HT_.out (by kernel_rfl)) (fun _ _ _ h => h) (Or.inl ⟨by rfl, ?_⟩) ?_ ?_
               rotate_left
               ·intro w'
                go_simp
                with_reducible rfl
               rotate_left
               ·simp only [qa_]
                rfl
               refine pure_ (i := 24) (N := some 14) (v := ?_) (a' := ?_) #[true, true, true, true, true, true, true, true, true, true, true, true, true, true, true, true, true, true, true, true, true, true, true, true, true, false, false] rfl rfl (any_of HT_.out (by kernel_rfl)) (fun _ _ _ h => h) (Or.inl ⟨by rfl, ?_⟩) ?_ ?_
               rotate_left
               ·intro w'
                go_simp
                with_reducible rfl
               rotate_left
               ·simp only [qa_]
                rfl
               refine pure_ (i := 25) (N := some 15) (v := ?_) (a' := ?_) #[true, true, true, true, true, true, true, true, true, true, true, true, true, true, true, true, true, true, true, true, true, true, true, true, true, true, false] rfl rfl (any_of HT_.out (by kernel_rfl)) (fun _ _ _ h => h) (Or.inl ⟨by rfl, ?_⟩) ?_ ?_
               rotate_left
               ·intro w'
                go_simp
                with_reducible rfl
               rotate_left
               ·simp only [qa_]
                rfl
               refine pure_ (i := 26) (N := some 9) (v := ?_) (a' := ?_) #[true, true, true, true, true, true, true, true, true, true, true, true, true, true, true, true, true, true, true, true, true, true, true, true, true, true, true] rfl rfl (any_of HT_.out (by kernel_rfl)) (fun _ _ _ h => h) (Or.inl ⟨by rfl, ?_⟩) ?_ ?_
               rotate_left
               ·intro w'
                go_simp
                with_reducible rfl
               rotate_left
               ·simp only [qa_]
                rfl
               refine done_ (done_of HT_.out (by kernel_rfl)) ?_
               go_upto_region 14 with (fail)
               go_cut [128] (fun v128 wc => ∃ (kq : Nat) (x128_46 : Bool), v128 = .bool x128_46 ∧ Aside0 (madrigallaw01_LexEdited.j2 kq a0 t454 t459 t460 x128_46 a1_0 a1_1 a1_2 a2_0 a2_1 a2_2 = some r) ∧ Aside0 (kq ≤ kj28) ∧ Aside0 (Kd.R k38 38 wc w.heap.size (fun k_ => some k_ ≠ ((.slice Ao49 t460.length co49) : Value).ownBlock) (.slice Ao23 t454.length co23) t454) ∧ Aside0 (Kd.R k38 38 wc w.heap.size (fun k_ => some k_ ≠ ((.slice Ao23 t454.length co23) : Value).ownBlock) (.slice Ao49 t460.length co49) t460) ∧ Aside0 (wc.heap[gb447]? = some (.cells #[.int .i64 a1_0, .int .i64 a1_1, .string a1_2] 51 (0, 0))) ∧ Aside0 (wc.heap[gb448]? = some (.cells #[.int .i64 a2_0, .int .i64 a2_1, .string a2_2] 51 (0, 0))) ∧ Aside0 (Below w.heap.size w wc))
               case first =>
                have H := HC47.out
                clear HC47
                by_cases c51 : t470 = 0
                ·rw [if_pos c51] at H
                 have c51b0 : (t470 == 0) = true := beq_iff_eq.mpr c51
                 have c51b1 : (t470 != 0) = false := bne_eq_false_iff_eq.mpr c51
                 clear c51
                 (first | rw [c51b0] | (simp only [i64_w, i32_w]; rw [c51b0]) | skip)
                 by_cases c52 : t465.toList = a0.toList
                 ·rw [if_pos c52] at H
                  have c52b0 : (t465.toList == a0.toList) = true := beq_iff_eq.mpr c52
                  have c52b1 : (t465.toList != a0.toList) = false := bne_eq_false_iff_eq.mpr c52
                  clear c52
                  replace H := Option.bind_eq_some_iff.mp H
                  obtain ⟨t471, A530, H⟩ := H
                  replace H : (madrigallaw01_LexEdited.j2 kj28 a0 t454 t459 t460 (!t471) a1_0 a1_1 a1_2 a2_0 a2_1 a2_2) = some r := H
                  have A53 := Aside0.mk A530
                  clear A530
                  have H' := Aside0.mk H
                  clear H
                  obtain ⟨Ao54, co54, eo54⟩ := Kd.R_slice HO468.out
                  subst eo54
                  go_wp2_with (first | (go_at_call 15; (with_reducible refine (madrigalref01_Same.calls kj28 _ _ t466 _ _ t454 t471 _ ?side1 ?side2 ?side3 ?side4 A53.out).mono ?_); (case side1 => repeat (first | exact (Kd.R_reads' HO468.out).2.2 | (with_reducible refine Kd.C_alloc ?_ _) | (with_reducible refine Kd.C_drewN ?_ _) | (with_reducible refine Kd.C_drew ?_))); (case side2 => exact (Kd.R_reads' HO468.out).2.1); (case side3 => repeat (first | exact (Kd.R_reads' HO_7.out).2.2 | (with_reducible refine Kd.C_alloc ?_ _) | (with_reducible refine Kd.C_drewN ?_ _) | (with_reducible refine Kd.C_drew ?_))); (case side4 => exact (Kd.R_reads' HO_7.out).2.1); rintro e w' ⟨rfl, ⟨nd, rfl⟩⟩))
                  go_meet
                  case rel => exact ⟨_, (!t471), (by first | rfl | (simp; done) | (simp [*]; done)), H', ⟨by have := HJ10.out; have := HJ28.out; first | omega | exact Nat.le_refl _⟩, ⟨by (with_reducible repeat (first | apply Kd.R_alloc | apply Kd.R_drewN | apply Kd.R_drew)); exact Kd.R_mono HO_7.out (fun _ hk => hk.1)⟩, ⟨by (with_reducible repeat (first | apply Kd.R_alloc | apply Kd.R_drewN | apply Kd.R_drew)); exact Kd.R_mono HO_11.out (fun _ hk => hk.1)⟩, ⟨by (with_reducible repeat (first | refine blk_drewN ?_ _ | refine blk_drew ?_ | refine blk_alloc ?_ _)); exact BK447.out⟩, ⟨by (with_reducible repeat (first | refine blk_drewN ?_ _ | refine blk_drew ?_ | refine blk_alloc ?_ _)); exact BK448.out⟩, ⟨by repeat (first | (with_reducible first | exact HB.out | apply below_alloc | apply pw_below_drewN | apply below_drew1 | refine below_set ?_ GE447.out | refine below_set ?_ GE448.out) | exact HB.out)⟩⟩
                 ·rw [if_neg c52] at H
                  have c52b0 : (t465.toList == a0.toList) = false := beq_eq_false_iff_ne.mpr c52
                  have c52b1 : (t465.toList != a0.toList) = true := bne_iff_ne.mpr c52
                  have H' := Aside0.mk H
                  clear H
                  go_wp2
                  go_meet
                  case rel => exact ⟨_, (true), (by first | rfl | (simp; done) | (simp [*]; done)), H', ⟨by have := HJ10.out; have := HJ28.out; first | omega | exact Nat.le_refl _⟩, ⟨by (with_reducible repeat (first | apply Kd.R_alloc | apply Kd.R_drewN | apply Kd.R_drew)); exact Kd.R_mono HO_7.out (fun _ hk => hk.1)⟩, ⟨by (with_reducible repeat (first | apply Kd.R_alloc | apply Kd.R_drewN | apply Kd.R_drew)); exact Kd.R_mono HO_11.out (fun _ hk => hk.1)⟩, ⟨by (with_reducible repeat (first | refine blk_drewN ?_ _ | refine blk_drew ?_ | refine blk_alloc ?_ _)); exact BK447.out⟩, ⟨by (with_reducible repeat (first | refine blk_drewN ?_ _ | refine blk_drew ?_ | refine blk_alloc ?_ _)); exact BK448.out⟩, ⟨by repeat (first | (with_reducible first | exact HB.out | apply below_alloc | apply pw_below_drewN | apply below_drew1 | refine below_set ?_ GE447.out | refine below_set ?_ GE448.out) | exact HB.out)⟩⟩
                ·rw [if_neg c51] at H
                 have c51b0 : (t470 == 0) = false := beq_eq_false_iff_ne.mpr c51
                 have c51b1 : (t470 != 0) = true := bne_iff_ne.mpr c51
                 (first | rw [c51b0] | (simp only [i64_w, i32_w]; rw [c51b0]) | skip)
                 have H' := Aside0.mk H
                 clear H
                 go_wp2
                 go_meet
                 case rel => exact ⟨_, (true), (by first | rfl | (simp; done) | (simp [*]; done)), H', ⟨by have := HJ10.out; have := HJ28.out; first | omega | exact Nat.le_refl _⟩, ⟨by (with_reducible repeat (first | apply Kd.R_alloc | apply Kd.R_drewN | apply Kd.R_drew)); exact Kd.R_mono HO_7.out (fun _ hk => hk.1)⟩, ⟨by (with_reducible repeat (first | apply Kd.R_alloc | apply Kd.R_drewN | apply Kd.R_drew)); exact Kd.R_mono HO_11.out (fun _ hk => hk.1)⟩, ⟨by (with_reducible repeat (first | refine blk_drewN ?_ _ | refine blk_drew ?_ | refine blk_alloc ?_ _)); exact BK447.out⟩, ⟨by (with_reducible repeat (first | refine blk_drewN ?_ _ | refine blk_drew ?_ | refine blk_alloc ?_ _)); exact BK448.out⟩, ⟨by repeat (first | (with_reducible first | exact HB.out | apply below_alloc | apply pw_below_drewN | apply below_drew1 | refine below_set ?_ GE447.out | refine below_set ?_ GE448.out) | exact HB.out)⟩⟩
               case rest =>
                clear HC47
                try clear c1
                try clear c2
                try clear p2
                try clear c3
                try clear c4
                try clear c5
                try clear p6
                try clear c7
                try clear c9
                try clear c9b0
                try clear c9b1
                try clear c10
                try clear c11
                try clear c12
                try clear c13
                try clear c15
                try clear c25
                try clear c25b0
                try clear c25b1
                try clear c26
                try clear c26b0
                try clear c26b1
                try clear c27
                try clear c30
                try clear c30b0
                try clear c30b1
                try clear c31
                try clear c31b0
                try clear c32
                try clear c34
                try clear c34b0
                try clear c35
                try clear c37
                try clear c37b0
                try clear c38
                try clear c40
                try clear c42
                try clear c43
                try clear c43b0
                try clear c43b1
                try clear c44
                try clear c44b0
                try clear c44b1
                try clear c45
                try clear c45b0
                try clear c45b1
                try clear c51
                try clear c51b0
                try clear c51b1
                try clear c52
                try clear c52b0
                try clear c52b1
                try clear hcz16_0
                try clear hcz16_1
                try clear hcz16_2
                try clear hcz17_0
                try clear hcz17_1
                try clear hcz17_2
                try clear hcz22_0
                try clear hcz22_1
                try clear hcz22_2
                try clear hcz33_0
                try clear hcz33_1
                try clear hcz33_2
                try clear hcz36_0
                try clear hcz36_1
                try clear hcz36_2
                try clear hcz39_0
                try clear hcz39_1
                try clear hcz39_2
                try clear hcz41_0
                try clear hcz41_1
                try clear hcz41_2
                try clear hfz16_0
                try clear hfz16_1
                try clear hfz16_2
                try clear hfz17_0
                try clear hfz17_1
                try clear hfz17_2
                try clear hfz22_0
                try clear hfz22_1
                try clear hfz22_2
                try clear hfz33_0
                try clear hfz33_1
                try clear hfz33_2
                try clear hfz36_0
                try clear hfz36_1
                try clear hfz36_2
                try clear hfz39_0
                try clear hfz39_1
                try clear hfz39_2
                try clear hfz41_0
                try clear hfz41_1
                try clear hfz41_2
                try clear p2
                try clear p6
                obtain ⟨kq, x128_46, rfl, HA, HJ46, HO_7, HO_11, BK447, BK448, HB⟩ := hcut
                cases kq with
                | zero => exact absurd HA.out (by simp [madrigallaw01_LexEdited.j2])
                | succ kj46 =>
                 have H := HA.out
                 clear HA
                 simp only [madrigallaw01_LexEdited.j2] at H
                 by_cases c55 : x128_46 = true
                 ·subst c55
                  have H1 : (some false) = some r := by rw [if_pos rfl] at H; exact H
                  clear H
                  have H := H1
                  clear H1
                  obtain rfl := Option.some.inj H
                  go_wp2
                  go_ret
                  exact ⟨by first | rfl | (simp [errW_none, errW_some] <;> rfl) | (simp [*, errW_none, errW_some] <;> rfl), by repeat (first | (with_reducible first | exact HB.out | apply below_alloc | apply pw_below_drewN | apply below_drew1 | refine below_set ?_ GE447.out | refine below_set ?_ GE448.out) | exact HB.out)⟩
                 ·as_aux_lemma =>
                   replace c55 := Bool.eq_false_iff.mpr c55
                   subst c55
                   have H1 : (if a2_0 < (wrap64 (a1_0 + a1_1)) then (madrigallaw01_LexEdited.j3 kj46 a0 t454 t459 t460 true a1_0 a1_1 a1_2 a2_0 a2_1 a2_2) else (if a2_0 < 0 then (madrigallaw01_LexEdited.j3 kj46 a0 t454 t459 t460 true a1_0 a1_1 a1_2 a2_0 a2_1 a2_2) else (if a2_1 < 0 then (madrigallaw01_LexEdited.j3 kj46 a0 t454 t459 t460 true a1_0 a1_1 a1_2 a2_0 a2_1 a2_2) else (if a2_0 > (a0.size : Int) then (madrigallaw01_LexEdited.j3 kj46 a0 t454 t459 t460 true a1_0 a1_1 a1_2 a2_0 a2_1 a2_2) else (madrigallaw01_LexEdited.j3 kj46 a0 t454 t459 t460 (decide (a2_1 > (wrap64 ((a0.size : Int) - a2_0)))) a1_0 a1_1 a1_2 a2_0 a2_1 a2_2))))) = some r := by rw [if_neg (show ¬ (false = true) by decide)] at H; exact H
                   clear H
                   have H := H1
                   clear H1
                   have HC56 := Aside0.mk H
                   clear H
                   go_upto_region 16 with (fail)
                   go_cut [163] (fun v163 wc => ∃ (kq : Nat) (x163_55 : Bool), v163 = .bool x163_55 ∧ Aside0 (madrigallaw01_LexEdited.j3 kq a0 t454 t459 t460 x163_55 a1_0 a1_1 a1_2 a2_0 a2_1 a2_2 = some r) ∧ Aside0 (kq ≤ kj46) ∧ Aside0 (Kd.R k38 38 wc w.heap.size (fun k_ => some k_ ≠ ((.slice Ao49 t460.length co49) : Value).ownBlock) (.slice Ao23 t454.length co23) t454) ∧ Aside0 (Kd.R k38 38 wc w.heap.size (fun k_ => some k_ ≠ ((.slice Ao23 t454.length co23) : Value).ownBlock) (.slice Ao49 t460.length co49) t460) ∧ Aside0 (wc.heap[gb447]? = some (.cells #[.int .i64 a1_0, .int .i64 a1_1, .string a1_2] 51 (0, 0))) ∧ Aside0 (wc.heap[gb448]? = some (.cells #[.int .i64 a2_0, .int .i64 a2_1, .string a2_2] 51 (0, 0))) ∧ Aside0 (Below w.heap.size w wc))
                   case first =>
                    have H := HC56.out
                    clear HC56
                    by_cases c57 : a2_0 < (wrap64 (a1_0 + a1_1))
                    ·rw [if_pos c57] at H
                     have c57b0 : decide (a2_0 < (wrap64 (a1_0 + a1_1))) = true := decide_eq_true c57
                     clear c57
                     (first | rw [c57b0] | (simp only [i64_w, i32_w]; rw [c57b0]) | skip)
                     have H' := Aside0.mk H
                     clear H
                     have hnb58 := NB448_447.out
                     have hnc58 := NB447_448.out
                     have hcz59_0 : wc.cell? ⟨gb448, 0, none⟩ = some (.int .i64 a2_0) := (blk_cell BK448.out 0).trans rfl
                     have hcz59_1 : wc.cell? ⟨gb448, 1, none⟩ = some (.int .i64 a2_1) := (blk_cell BK448.out 1).trans rfl
                     have hcz59_2 : wc.cell? ⟨gb448, 2, none⟩ = some (.string a2_2) := (blk_cell BK448.out 2).trans rfl
                     have hfz59_0 := blk_frozen BK448.out 0
                     have hfz59_1 := blk_frozen BK448.out 1
                     have hfz59_2 := blk_frozen BK448.out 2
                     have hcz60_0 : wc.cell? ⟨gb447, 0, none⟩ = some (.int .i64 a1_0) := (blk_cell BK447.out 0).trans rfl
                     have hcz60_1 : wc.cell? ⟨gb447, 1, none⟩ = some (.int .i64 a1_1) := (blk_cell BK447.out 1).trans rfl
                     have hcz60_2 : wc.cell? ⟨gb447, 2, none⟩ = some (.string a1_2) := (blk_cell BK447.out 2).trans rfl
                     have hfz60_0 := blk_frozen BK447.out 0
                     have hfz60_1 := blk_frozen BK447.out 1
                     have hfz60_2 := blk_frozen BK447.out 2
                     go_wp2
                     go_meet
                     case rel => exact ⟨_, (true), (by first | rfl | (simp; done) | (simp [*]; done)), H', ⟨by have := HJ10.out; have := HJ28.out; have := HJ46.out; first | omega | exact Nat.le_refl _⟩, ⟨by (with_reducible repeat (first | apply Kd.R_alloc | apply Kd.R_drewN | apply Kd.R_drew)); exact HO_7.out⟩, ⟨by (with_reducible repeat (first | apply Kd.R_alloc | apply Kd.R_drewN | apply Kd.R_drew)); exact HO_11.out⟩, ⟨by (with_reducible repeat (first | refine blk_drewN ?_ _ | refine blk_drew ?_ | refine blk_alloc ?_ _)); exact BK447.out⟩, ⟨by (with_reducible repeat (first | refine blk_drewN ?_ _ | refine blk_drew ?_ | refine blk_alloc ?_ _)); exact BK448.out⟩, ⟨by repeat (first | (with_reducible first | exact HB.out | apply below_alloc | apply pw_below_drewN | apply below_drew1 | refine below_set ?_ GE447.out | refine below_set ?_ GE448.out) | exact HB.out)⟩⟩
                    ·rw [if_neg c57] at H
                     have c57b0 : decide (a2_0 < (wrap64 (a1_0 + a1_1))) = false := decide_eq_false c57
                     clear c57
                     (first | rw [c57b0] | (simp only [i64_w, i32_w]; rw [c57b0]) | skip)
                     by_cases c61 : a2_0 < 0
                     ·rw [if_pos c61] at H
                      have c61b0 : decide (a2_0 < 0) = true := decide_eq_true c61
                      clear c61
                      have H' := Aside0.mk H
                      clear H
                      have hnb62 := NB448_447.out
                      have hnc62 := NB447_448.out
                      have hcz63_0 : wc.cell? ⟨gb448, 0, none⟩ = some (.int .i64 a2_0) := (blk_cell BK448.out 0).trans rfl
                      have hcz63_1 : wc.cell? ⟨gb448, 1, none⟩ = some (.int .i64 a2_1) := (blk_cell BK448.out 1).trans rfl
                      have hcz63_2 : wc.cell? ⟨gb448, 2, none⟩ = some (.string a2_2) := (blk_cell BK448.out 2).trans rfl
                      have hfz63_0 := blk_frozen BK448.out 0
                      have hfz63_1 := blk_frozen BK448.out 1
                      have hfz63_2 := blk_frozen BK448.out 2
                      have hcz64_0 : wc.cell? ⟨gb447, 0, none⟩ = some (.int .i64 a1_0) := (blk_cell BK447.out 0).trans rfl
                      have hcz64_1 : wc.cell? ⟨gb447, 1, none⟩ = some (.int .i64 a1_1) := (blk_cell BK447.out 1).trans rfl
                      have hcz64_2 : wc.cell? ⟨gb447, 2, none⟩ = some (.string a1_2) := (blk_cell BK447.out 2).trans rfl
                      have hfz64_0 := blk_frozen BK447.out 0
                      have hfz64_1 := blk_frozen BK447.out 1
                      have hfz64_2 := blk_frozen BK447.out 2
                      go_wp2
                      go_meet
                      case rel => exact ⟨_, (true), (by first | rfl | (simp; done) | (simp [*]; done)), H', ⟨by have := HJ10.out; have := HJ28.out; have := HJ46.out; first | omega | exact Nat.le_refl _⟩, ⟨by (with_reducible repeat (first | apply Kd.R_alloc | apply Kd.R_drewN | apply Kd.R_drew)); exact HO_7.out⟩, ⟨by (with_reducible repeat (first | apply Kd.R_alloc | apply Kd.R_drewN | apply Kd.R_drew)); exact HO_11.out⟩, ⟨by (with_reducible repeat (first | refine blk_drewN ?_ _ | refine blk_drew ?_ | refine blk_alloc ?_ _)); exact BK447.out⟩, ⟨by (with_reducible repeat (first | refine blk_drewN ?_ _ | refine blk_drew ?_ | refine blk_alloc ?_ _)); exact BK448.out⟩, ⟨by repeat (first | (with_reducible first | exact HB.out | apply below_alloc | apply pw_below_drewN | apply below_drew1 | refine below_set ?_ GE447.out | refine below_set ?_ GE448.out) | exact HB.out)⟩⟩
                     ·rw [if_neg c61] at H
                      have c61b0 : decide (a2_0 < 0) = false := decide_eq_false c61
                      clear c61
                      by_cases c65 : a2_1 < 0
                      ·rw [if_pos c65] at H
                       have c65b0 : decide (a2_1 < 0) = true := decide_eq_true c65
                       clear c65
                       have H' := Aside0.mk H
                       clear H
                       have hnb66 := NB448_447.out
                       have hnc66 := NB447_448.out
                       have hcz67_0 : wc.cell? ⟨gb448, 0, none⟩ = some (.int .i64 a2_0) := (blk_cell BK448.out 0).trans rfl
                       have hcz67_1 : wc.cell? ⟨gb448, 1, none⟩ = some (.int .i64 a2_1) := (blk_cell BK448.out 1).trans rfl
                       have hcz67_2 : wc.cell? ⟨gb448, 2, none⟩ = some (.string a2_2) := (blk_cell BK448.out 2).trans rfl
                       have hfz67_0 := blk_frozen BK448.out 0
                       have hfz67_1 := blk_frozen BK448.out 1
                       have hfz67_2 := blk_frozen BK448.out 2
                       have hcz68_0 : wc.cell? ⟨gb447, 0, none⟩ = some (.int .i64 a1_0) := (blk_cell BK447.out 0).trans rfl
                       have hcz68_1 : wc.cell? ⟨gb447, 1, none⟩ = some (.int .i64 a1_1) := (blk_cell BK447.out 1).trans rfl
                       have hcz68_2 : wc.cell? ⟨gb447, 2, none⟩ = some (.string a1_2) := (blk_cell BK447.out 2).trans rfl
                       have hfz68_0 := blk_frozen BK447.out 0
                       have hfz68_1 := blk_frozen BK447.out 1
                       have hfz68_2 := blk_frozen BK447.out 2
                       go_wp2
                       go_meet
                       case rel => exact ⟨_, (true), (by first | rfl | (simp; done) | (simp [*]; done)), H', ⟨by have := HJ10.out; have := HJ28.out; have := HJ46.out; first | omega | exact Nat.le_refl _⟩, ⟨by (with_reducible repeat (first | apply Kd.R_alloc | apply Kd.R_drewN | apply Kd.R_drew)); exact HO_7.out⟩, ⟨by (with_reducible repeat (first | apply Kd.R_alloc | apply Kd.R_drewN | apply Kd.R_drew)); exact HO_11.out⟩, ⟨by (with_reducible repeat (first | refine blk_drewN ?_ _ | refine blk_drew ?_ | refine blk_alloc ?_ _)); exact BK447.out⟩, ⟨by (with_reducible repeat (first | refine blk_drewN ?_ _ | refine blk_drew ?_ | refine blk_alloc ?_ _)); exact BK448.out⟩, ⟨by repeat (first | (with_reducible first | exact HB.out | apply below_alloc | apply pw_below_drewN | apply below_drew1 | refine below_set ?_ GE447.out | refine below_set ?_ GE448.out) | exact HB.out)⟩⟩
                      ·rw [if_neg c65] at H
                       have c65b0 : decide (a2_1 < 0) = false := decide_eq_false c65
                       clear c65
                       by_cases c69 : a2_0 > (a0.size : Int)
                       ·rw [if_pos c69] at H
                        have c69b0 : decide ((a0.size : Int) < a2_0) = true := decide_eq_true c69
                        clear c69
                        have H' := Aside0.mk H
                        clear H
                        have hnb70 := NB448_447.out
                        have hnc70 := NB447_448.out
                        have hcz71_0 : wc.cell? ⟨gb448, 0, none⟩ = some (.int .i64 a2_0) := (blk_cell BK448.out 0).trans rfl
                        have hcz71_1 : wc.cell? ⟨gb448, 1, none⟩ = some (.int .i64 a2_1) := (blk_cell BK448.out 1).trans rfl
                        have hcz71_2 : wc.cell? ⟨gb448, 2, none⟩ = some (.string a2_2) := (blk_cell BK448.out 2).trans rfl
                        have hfz71_0 := blk_frozen BK448.out 0
                        have hfz71_1 := blk_frozen BK448.out 1
                        have hfz71_2 := blk_frozen BK448.out 2
                        have hcz72_0 : wc.cell? ⟨gb447, 0, none⟩ = some (.int .i64 a1_0) := (blk_cell BK447.out 0).trans rfl
                        have hcz72_1 : wc.cell? ⟨gb447, 1, none⟩ = some (.int .i64 a1_1) := (blk_cell BK447.out 1).trans rfl
                        have hcz72_2 : wc.cell? ⟨gb447, 2, none⟩ = some (.string a1_2) := (blk_cell BK447.out 2).trans rfl
                        have hfz72_0 := blk_frozen BK447.out 0
                        have hfz72_1 := blk_frozen BK447.out 1
                        have hfz72_2 := blk_frozen BK447.out 2
                        go_wp2
                        go_meet
                        case rel => exact ⟨_, (true), (by first | rfl | (simp; done) | (simp [*]; done)), H', ⟨by have := HJ10.out; have := HJ28.out; have := HJ46.out; first | omega | exact Nat.le_refl _⟩, ⟨by (with_reducible repeat (first | apply Kd.R_alloc | apply Kd.R_drewN | apply Kd.R_drew)); exact HO_7.out⟩, ⟨by (with_reducible repeat (first | apply Kd.R_alloc | apply Kd.R_drewN | apply Kd.R_drew)); exact HO_11.out⟩, ⟨by (with_reducible repeat (first | refine blk_drewN ?_ _ | refine blk_drew ?_ | refine blk_alloc ?_ _)); exact BK447.out⟩, ⟨by (with_reducible repeat (first | refine blk_drewN ?_ _ | refine blk_drew ?_ | refine blk_alloc ?_ _)); exact BK448.out⟩, ⟨by repeat (first | (with_reducible first | exact HB.out | apply below_alloc | apply pw_below_drewN | apply below_drew1 | refine below_set ?_ GE447.out | refine below_set ?_ GE448.out) | exact HB.out)⟩⟩
                       ·rw [if_neg c69] at H
                        have c69b0 : decide ((a0.size : Int) < a2_0) = false := decide_eq_false c69
                        clear c69
                        have H' := Aside0.mk H
                        clear H
                        have hnb73 := NB448_447.out
                        have hnc73 := NB447_448.out
                        have hcz74_0 : wc.cell? ⟨gb448, 0, none⟩ = some (.int .i64 a2_0) := (blk_cell BK448.out 0).trans rfl
                        have hcz74_1 : wc.cell? ⟨gb448, 1, none⟩ = some (.int .i64 a2_1) := (blk_cell BK448.out 1).trans rfl
                        have hcz74_2 : wc.cell? ⟨gb448, 2, none⟩ = some (.string a2_2) := (blk_cell BK448.out 2).trans rfl
                        have hfz74_0 := blk_frozen BK448.out 0
                        have hfz74_1 := blk_frozen BK448.out 1
                        have hfz74_2 := blk_frozen BK448.out 2
                        have hcz75_0 : wc.cell? ⟨gb447, 0, none⟩ = some (.int .i64 a1_0) := (blk_cell BK447.out 0).trans rfl
                        have hcz75_1 : wc.cell? ⟨gb447, 1, none⟩ = some (.int .i64 a1_1) := (blk_cell BK447.out 1).trans rfl
                        have hcz75_2 : wc.cell? ⟨gb447, 2, none⟩ = some (.string a1_2) := (blk_cell BK447.out 2).trans rfl
                        have hfz75_0 := blk_frozen BK447.out 0
                        have hfz75_1 := blk_frozen BK447.out 1
                        have hfz75_2 := blk_frozen BK447.out 2
                        go_wp2
                        go_meet
                        case rel => exact ⟨_, (decide (a2_1 > (wrap64 ((a0.size : Int) - a2_0)))), (by first | rfl | (simp; done) | (simp [*]; done)), H', ⟨by have := HJ10.out; have := HJ28.out; have := HJ46.out; first | omega | exact Nat.le_refl _⟩, ⟨by (with_reducible repeat (first | apply Kd.R_alloc | apply Kd.R_drewN | apply Kd.R_drew)); exact HO_7.out⟩, ⟨by (with_reducible repeat (first | apply Kd.R_alloc | apply Kd.R_drewN | apply Kd.R_drew)); exact HO_11.out⟩, ⟨by (with_reducible repeat (first | refine blk_drewN ?_ _ | refine blk_drew ?_ | refine blk_alloc ?_ _)); exact BK447.out⟩, ⟨by (with_reducible repeat (first | refine blk_drewN ?_ _ | refine blk_drew ?_ | refine blk_alloc ?_ _)); exact BK448.out⟩, ⟨by repeat (first | (with_reducible first | exact HB.out | apply below_alloc | apply pw_below_drewN | apply below_drew1 | refine below_set ?_ GE447.out | refine below_set ?_ GE448.out) | exact HB.out)⟩⟩
                   case rest =>
                    clear HC56
                    try clear c1
                    try clear c2
                    try clear p2
                    try clear c3
                    try clear c4
                    try clear c5
                    try clear c6
                    try clear p6
                    try clear c7
                    try clear c9
                    try clear c9b0
                    try clear c9b1
                    try clear c10
                    try clear c11
                    try clear c12
                    try clear c13
                    try clear c15
                    try clear c25
                    try clear c25b0
                    try clear c25b1
                    try clear c26
                    try clear c26b0
                    try clear c26b1
                    try clear c27
                    try clear c30
                    try clear c30b0
                    try clear c30b1
                    try clear c31
                    try clear c31b0
                    try clear c32
                    try clear c34
                    try clear c34b0
                    try clear c35
                    try clear c37
                    try clear c37b0
                    try clear c38
                    try clear c40
                    try clear c42
                    try clear c43
                    try clear c43b0
                    try clear c43b1
                    try clear c44
                    try clear c44b0
                    try clear c44b1
                    try clear c45
                    try clear c45b0
                    try clear c45b1
                    try clear c51
                    try clear c51b0
                    try clear c51b1
                    try clear c52
                    try clear c52b0
                    try clear c52b1
                    try clear c55
                    try clear c57
                    try clear c57b0
                    try clear c58
                    try clear c61
                    try clear c61b0
                    try clear c62
                    try clear p64
                    try clear c65
                    try clear c65b0
                    try clear c66
                    try clear c69
                    try clear c69b0
                    try clear c70
                    try clear c73
                    try clear hcz16_0
                    try clear hcz16_1
                    try clear hcz16_2
                    try clear hcz17_0
                    try clear hcz17_1
                    try clear hcz17_2
                    try clear hcz22_0
                    try clear hcz22_1
                    try clear hcz22_2
                    try clear hcz33_0
                    try clear hcz33_1
                    try clear hcz33_2
                    try clear hcz36_0
                    try clear hcz36_1
                    try clear hcz36_2
                    try clear hcz39_0
                    try clear hcz39_1
                    try clear hcz39_2
                    try clear hcz41_0
                    try clear hcz41_1
                    try clear hcz41_2
                    try clear hcz59_0
                    try clear hcz59_1
                    try clear hcz59_2
                    try clear hcz60_0
                    try clear hcz60_1
                    try clear hcz60_2
                    try clear hcz63_0
                    try clear hcz63_1
                    try clear hcz63_2
                    try clear hcz64_0
                    try clear hcz64_1
                    try clear hcz64_2
                    try clear hcz67_0
                    try clear hcz67_1
                    try clear hcz67_2
                    try clear hcz68_0
                    try clear hcz68_1
                    try clear hcz68_2
                    try clear hcz71_0
                    try clear hcz71_1
                    try clear hcz71_2
                    try clear hcz72_0
                    try clear hcz72_1
                    try clear hcz72_2
                    try clear hcz74_0
                    try clear hcz74_1
                    try clear hcz74_2
                    try clear hcz75_0
                    try clear hcz75_1
                    try clear hcz75_2
                    try clear hfz16_0
                    try clear hfz16_1
                    try clear hfz16_2
                    try clear hfz17_0
                    try clear hfz17_1
                    try clear hfz17_2
                    try clear hfz22_0
                    try clear hfz22_1
                    try clear hfz22_2
                    try clear hfz33_0
                    try clear hfz33_1
                    try clear hfz33_2
                    try clear hfz36_0
                    try clear hfz36_1
                    try clear hfz36_2
                    try clear hfz39_0
                    try clear hfz39_1
                    try clear hfz39_2
                    try clear hfz41_0
                    try clear hfz41_1
                    try clear hfz41_2
                    try clear hfz59_0
                    try clear hfz59_1
                    try clear hfz59_2
                    try clear hfz60_0
                    try clear hfz60_1
                    try clear hfz60_2
                    try clear hfz63_0
                    try clear hfz63_1
                    try clear hfz63_2
                    try clear hfz64_0
                    try clear hfz64_1
                    try clear hfz64_2
                    try clear hfz67_0
                    try clear hfz67_1
                    try clear hfz67_2
                    try clear hfz68_0
                    try clear hfz68_1
                    try clear hfz68_2
                    try clear hfz71_0
                    try clear hfz71_1
                    try clear hfz71_2
                    try clear hfz72_0
                    try clear hfz72_1
                    try clear hfz72_2
                    try clear hfz74_0
                    try clear hfz74_1
                    try clear hfz74_2
                    try clear hfz75_0
                    try clear hfz75_1
                    try clear hfz75_2
                    try clear p2
                    try clear p6
                    obtain ⟨kq, x163_55, rfl, HA, HJ55, HO_7, HO_11, BK447, BK448, HB⟩ := hcut
                    cases kq with
                    | zero => exact absurd HA.out (by simp [madrigallaw01_LexEdited.j3])
                    | succ kj55 =>
                     have H := HA.out
                     clear HA
                     simp only [madrigallaw01_LexEdited.j3] at H
                     by_cases c76 : x163_55 = true
                     ·subst c76
                      have H1 : (some true) = some r := by rw [if_pos rfl] at H; exact H
                      clear H
                      have H := H1
                      clear H1
                      obtain rfl := Option.some.inj H
                      go_wp2
                      go_ret
                      exact ⟨by first | rfl | (simp [errW_none, errW_some] <;> rfl) | (simp [*, errW_none, errW_some] <;> rfl), by repeat (first | (with_reducible first | exact HB.out | apply below_alloc | apply pw_below_drewN | apply below_drew1 | refine below_set ?_ GE447.out | refine below_set ?_ GE448.out) | exact HB.out)⟩
                     ·as_aux_lemma =>
                       replace c76 := Bool.eq_false_iff.mpr c76
                       subst c76
                       have H1 : ((lex_Change.f kj55 t459 t460 (wrap64 ((wrap64 (a2_0 - a1_1)) + (a1_2.size : Int))) a2_1 a2_2).bind fun bt472 => ((lex_Change.f kj55 a0 t454 a2_0 a2_1 a2_2).bind fun bt478 => (if bt478.2.2.2 = 0 then ((lex_Change.f kj55 bt478.1 bt478.2.1 a1_0 a1_1 a1_2).bind fun bt484 => (if bt472.1.toList = bt484.1.toList then (if bt472.2.2.2 = bt484.2.2.2 then ((madrigalref01_Same.f kj55 bt472.2.1 bt484.2.1).bind fun t490 => (some t490)) else (some false)) else (some false))) else (some true)))) = some r := by rw [if_neg (show ¬ (false = true) by decide)] at H; exact H
                       clear H
                       have H := H1
                       clear H1
                       replace H := Option.bind_eq_some_iff.mp H
                       obtain ⟨⟨t472, t473, t476, t477⟩, A770, H⟩ := H
                       replace H : ((lex_Change.f kj55 a0 t454 a2_0 a2_1 a2_2).bind fun bt478 => (if bt478.2.2.2 = 0 then ((lex_Change.f kj55 bt478.1 bt478.2.1 a1_0 a1_1 a1_2).bind fun bt484 => (if t472.toList = bt484.1.toList then (if t477 = bt484.2.2.2 then ((madrigalref01_Same.f kj55 t473 bt484.2.1).bind fun t490 => (some t490)) else (some false)) else (some false))) else (some true))) = some r := H
                       have A77 := Aside0.mk A770
                       clear A770
                       replace H := Option.bind_eq_some_iff.mp H
                       obtain ⟨⟨t478, t479, t482, t483⟩, A780, H⟩ := H
                       replace H : (if t483 = 0 then ((lex_Change.f kj55 t478 t479 a1_0 a1_1 a1_2).bind fun bt484 => (if t472.toList = bt484.1.toList then (if t477 = bt484.2.2.2 then ((madrigalref01_Same.f kj55 t473 bt484.2.1).bind fun t490 => (some t490)) else (some false)) else (some false))) else (some true)) = some r := H
                       have A78 := Aside0.mk A780
                       clear A780
                       by_cases c79 : t483 = 0
                       ·rw [if_pos c79] at H
                        have c79b0 : (t483 == 0) = true := beq_iff_eq.mpr c79
                        have c79b1 : (t483 != 0) = false := bne_eq_false_iff_eq.mpr c79
                        clear c79
                        replace H := Option.bind_eq_some_iff.mp H
                        obtain ⟨⟨t484, t485, t488, t489⟩, A800, H⟩ := H
                        replace H : (if t472.toList = t484.toList then (if t477 = t489 then ((madrigalref01_Same.f kj55 t473 t485).bind fun t490 => (some t490)) else (some false)) else (some false)) = some r := H
                        have A80 := Aside0.mk A800
                        clear A800
                        by_cases c81 : t472.toList = t484.toList
                        ·rw [if_pos c81] at H
                         have c81b0 : (t472.toList == t484.toList) = true := beq_iff_eq.mpr c81
                         have c81b1 : (t472.toList != t484.toList) = false := bne_eq_false_iff_eq.mpr c81
                         clear c81
                         by_cases c82 : t477 = t489
                         ·rw [if_pos c82] at H
                          have c82b0 : (t477 == t489) = true := beq_iff_eq.mpr c82
                          have c82b1 : (t477 != t489) = false := bne_eq_false_iff_eq.mpr c82
                          clear c82
                          replace H := Option.bind_eq_some_iff.mp H
                          obtain ⟨t490, A830, H⟩ := H
                          replace H : (some t490) = some r := H
                          have A83 := Aside0.mk A830
                          clear A830
                          obtain rfl := Option.some.inj H
                          have hnb84 := NB448_447.out
                          have hnc84 := NB447_448.out
                          have hcz85_0 : wc.cell? ⟨gb448, 0, none⟩ = some (.int .i64 a2_0) := (blk_cell BK448.out 0).trans rfl
                          have hcz85_1 : wc.cell? ⟨gb448, 1, none⟩ = some (.int .i64 a2_1) := (blk_cell BK448.out 1).trans rfl
                          have hcz85_2 : wc.cell? ⟨gb448, 2, none⟩ = some (.string a2_2) := (blk_cell BK448.out 2).trans rfl
                          have hfz85_0 := blk_frozen BK448.out 0
                          have hfz85_1 := blk_frozen BK448.out 1
                          have hfz85_2 := blk_frozen BK448.out 2
                          have hcz86_0 : wc.cell? ⟨gb447, 0, none⟩ = some (.int .i64 a1_0) := (blk_cell BK447.out 0).trans rfl
                          have hcz86_1 : wc.cell? ⟨gb447, 1, none⟩ = some (.int .i64 a1_1) := (blk_cell BK447.out 1).trans rfl
                          have hcz86_2 : wc.cell? ⟨gb447, 2, none⟩ = some (.string a1_2) := (blk_cell BK447.out 2).trans rfl
                          have hfz86_0 := blk_frozen BK447.out 0
                          have hfz86_1 := blk_frozen BK447.out 1
                          have hfz86_2 := blk_frozen BK447.out 2
                          go_wp2_with (first | ((with_reducible refine gate_callee (f := 37) rfl ?_); refine goesL_ (some 181) rfl rfl Tryz.func37 (by kernel_rfl) rfl #[.string t459, .slice Ao49 t460.length co49, .agg #[.int .i64 (wrap64 ((wrap64 (a2_0 - a1_1)) + (a1_2.size : Int))), .int .i64 a2_1, .string a2_2]] rfl (by (try simp only [List.map_toArray, List.map_cons, List.map_nil]); first | done | rfl | (simp only [List.length_drop, List.length_take]; rfl)) ?_; (with_reducible refine (lex_Change.calls kj55 t459 _ _ t460 (wrap64 ((wrap64 (a2_0 - a1_1)) + (a1_2.size : Int))) a2_1 a2_2 t472 t473 t476 t477 _ ?side1 ?side2 A77.out ?side3).mono ?_); (case side1 => repeat (first | exact (Kd.R_reads' HO_11.out).2.2 | (with_reducible refine Kd.C_alloc ?_ _) | (with_reducible refine Kd.C_drewN ?_ _) | (with_reducible refine Kd.C_drew ?_))); (case side2 => exact (Kd.R_reads' HO_11.out).2.1); (case side3 => exact GL.below HG.out (by repeat (first | (with_reducible first | exact HB.out | apply below_alloc | apply pw_below_drewN | apply below_drew1 | refine below_set ?_ GE447.out | refine below_set ?_ GE448.out) | exact HB.out))); rintro e w87 ⟨v474, rfl, ho0, hb⟩; refine ⟨_, rfl, ?_⟩; have n0_ := Aside0.mk (Kd.R_elder' (by (with_reducible repeat (first | apply Kd.R_alloc | apply Kd.R_drewN | apply Kd.R_drew)); exact HO_7.out) (Kd.R_base ho0) hb); have n1_ := Aside0.mk (Kd.R_elder' (by (with_reducible repeat (first | apply Kd.R_alloc | apply Kd.R_drewN | apply Kd.R_drew)); exact HO_11.out) (Kd.R_base ho0) hb); have n2_ := Aside0.mk (Kd.R_lower (Kd.R_new' (Kd.R_new' ho0 (Kd.R_lt (by (with_reducible repeat (first | apply Kd.R_alloc | apply Kd.R_drewN | apply Kd.R_drew)); exact HO_7.out))) (Kd.R_lt (by (with_reducible repeat (first | apply Kd.R_alloc | apply Kd.R_drewN | apply Kd.R_drew)); exact HO_11.out))) (below_size (by repeat (first | (with_reducible first | exact HB.out | apply below_alloc | apply pw_below_drewN | apply below_drew1 | refine below_set ?_ GE447.out | refine below_set ?_ GE448.out) | exact HB.out)))); have n3_ := Aside0.mk (blk_below (g := gb447) (o := .cells #[.int .i64 a1_0, .int .i64 a1_1, .string a1_2] 51 (0, 0)) (by (with_reducible repeat (first | refine blk_drewN ?_ _ | refine blk_drew ?_ | refine blk_alloc ?_ _)); exact BK447.out) hb); have n4_ := Aside0.mk (blk_below (g := gb448) (o := .cells #[.int .i64 a2_0, .int .i64 a2_1, .string a2_2] 51 (0, 0)) (by (with_reducible repeat (first | refine blk_drewN ?_ _ | refine blk_drew ?_ | refine blk_alloc ?_ _)); exact BK448.out) hb); have n5_ := Aside0.mk (below_step (by repeat (first | (with_reducible first | exact HB.out | apply below_alloc | apply pw_below_drewN | apply below_drew1 | refine below_set ?_ GE447.out | refine below_set ?_ GE448.out) | exact HB.out)) hb); clear HO_7; clear HO_11; clear BK447; clear BK448; clear HB; have HO_7 := n0_; have HO_11 := n1_; have HO475 := n2_; have BK447 := n3_; have BK448 := n4_; have HB := n5_; clear n0_ n1_ n2_ n3_ n4_ n5_; (try clear hb); (try clear hb2); (try clear hk); (try clear hi); (try clear ho0); have hcz88_0 : w87.cell? ⟨gb448, 0, none⟩ = some (.int .i64 a2_0) := (blk_cell BK448.out 0).trans rfl; have hcz88_1 : w87.cell? ⟨gb448, 1, none⟩ = some (.int .i64 a2_1) := (blk_cell BK448.out 1).trans rfl; have hcz88_2 : w87.cell? ⟨gb448, 2, none⟩ = some (.string a2_2) := (blk_cell BK448.out 2).trans rfl; have hfz88_0 := blk_frozen BK448.out 0; have hfz88_1 := blk_frozen BK448.out 1; have hfz88_2 := blk_frozen BK448.out 2) | ((with_reducible refine gate_callee (f := 37) rfl ?_); refine goesL_ (some 190) rfl rfl Tryz.func37 (by kernel_rfl) rfl #[.string a0, .slice Ao23 t454.length co23, .agg #[.int .i64 a2_0, .int .i64 a2_1, .string a2_2]] rfl (by (try simp only [List.map_toArray, List.map_cons, List.map_nil]); first | done | rfl | (simp only [List.length_drop, List.length_take]; rfl)) ?_; (with_reducible refine (lex_Change.calls kj55 a0 _ _ t454 a2_0 a2_1 a2_2 t478 t479 t482 t483 _ ?side1 ?side2 A78.out ?side3).mono ?_); (case side1 => repeat (first | exact (Kd.R_reads' HO_7.out).2.2 | (with_reducible refine Kd.C_alloc ?_ _) | (with_reducible refine Kd.C_drewN ?_ _) | (with_reducible refine Kd.C_drew ?_))); (case side2 => exact (Kd.R_reads' HO_7.out).2.1); (case side3 => exact GL.below HG.out (by repeat (first | (with_reducible first | exact HB.out | apply below_alloc | apply pw_below_drewN | apply below_drew1 | refine below_set ?_ GE447.out | refine below_set ?_ GE448.out) | exact HB.out))); rintro e w89 ⟨v480, rfl, ho0, hb⟩; refine ⟨_, rfl, ?_⟩; have n0_ := Aside0.mk (Kd.R_elder' (by (with_reducible repeat (first | apply Kd.R_alloc | apply Kd.R_drewN | apply Kd.R_drew)); exact HO_7.out) (Kd.R_base ho0) hb); have n1_ := Aside0.mk (Kd.R_elder' (by (with_reducible repeat (first | apply Kd.R_alloc | apply Kd.R_drewN | apply Kd.R_drew)); exact HO_11.out) (Kd.R_base ho0) hb); have n2_ := Aside0.mk (Kd.R_elder' (by (with_reducible repeat (first | apply Kd.R_alloc | apply Kd.R_drewN | apply Kd.R_drew)); exact HO475.out) (Kd.R_base ho0) hb); have n3_ := Aside0.mk (Kd.R_lower (Kd.R_new' (Kd.R_new' (Kd.R_new' ho0 (Kd.R_lt (by (with_reducible repeat (first | apply Kd.R_alloc | apply Kd.R_drewN | apply Kd.R_drew)); exact HO_7.out))) (Kd.R_lt (by (with_reducible repeat (first | apply Kd.R_alloc | apply Kd.R_drewN | apply Kd.R_drew)); exact HO_11.out))) (Kd.R_lt (by (with_reducible repeat (first | apply Kd.R_alloc | apply Kd.R_drewN | apply Kd.R_drew)); exact HO475.out))) (below_size (by repeat (first | (with_reducible first | exact HB.out | apply below_alloc | apply pw_below_drewN | apply below_drew1 | refine below_set ?_ GE447.out | refine below_set ?_ GE448.out) | exact HB.out)))); have n4_ := Aside0.mk (blk_below (g := gb447) (o := .cells #[.int .i64 a1_0, .int .i64 a1_1, .string a1_2] 51 (0, 0)) (by (with_reducible repeat (first | refine blk_drewN ?_ _ | refine blk_drew ?_ | refine blk_alloc ?_ _)); exact BK447.out) hb); have n5_ := Aside0.mk (blk_below (g := gb448) (o := .cells #[.int .i64 a2_0, .int .i64 a2_1, .string a2_2] 51 (0, 0)) (by (with_reducible repeat (first | refine blk_drewN ?_ _ | refine blk_drew ?_ | refine blk_alloc ?_ _)); exact BK448.out) hb); have n6_ := Aside0.mk (below_step (by repeat (first | (with_reducible first | exact HB.out | apply below_alloc | apply pw_below_drewN | apply below_drew1 | refine below_set ?_ GE447.out | refine below_set ?_ GE448.out) | exact HB.out)) hb); clear HO_7; clear HO_11; clear HO475; clear BK447; clear BK448; clear HB; have HO_7 := n0_; have HO_11 := n1_; have HO475 := n2_; have HO481 := n3_; have BK447 := n4_; have BK448 := n5_; have HB := n6_; clear n0_ n1_ n2_ n3_ n4_ n5_ n6_; (try clear hb); (try clear hb2); (try clear hk); (try clear hi); (try clear ho0); have hcz90_0 : w89.cell? ⟨gb447, 0, none⟩ = some (.int .i64 a1_0) := (blk_cell BK447.out 0).trans rfl; have hcz90_1 : w89.cell? ⟨gb447, 1, none⟩ = some (.int .i64 a1_1) := (blk_cell BK447.out 1).trans rfl; have hcz90_2 : w89.cell? ⟨gb447, 2, none⟩ = some (.string a1_2) := (blk_cell BK447.out 2).trans rfl; have hfz90_0 := blk_frozen BK447.out 0; have hfz90_1 := blk_frozen BK447.out 1; have hfz90_2 := blk_frozen BK447.out 2; obtain ⟨Ao91, co91, eo91⟩ := Kd.R_slice HO481.out; subst eo91) | ((with_reducible refine gate_callee (f := 37) rfl ?_); refine goesL_ (some 201) rfl rfl Tryz.func37 (by kernel_rfl) rfl #[.string t478, .slice Ao91 t479.length co91, .agg #[.int .i64 a1_0, .int .i64 a1_1, .string a1_2]] rfl (by (try simp only [List.map_toArray, List.map_cons, List.map_nil]); first | done | rfl | (simp only [List.length_drop, List.length_take]; rfl)) ?_; (with_reducible refine (lex_Change.calls kj55 t478 _ _ t479 a1_0 a1_1 a1_2 t484 t485 t488 t489 _ ?side1 ?side2 A80.out ?side3).mono ?_); (case side1 => repeat (first | exact (Kd.R_reads' HO481.out).2.2 | (with_reducible refine Kd.C_alloc ?_ _) | (with_reducible refine Kd.C_drewN ?_ _) | (with_reducible refine Kd.C_drew ?_))); (case side2 => exact (Kd.R_reads' HO481.out).2.1); (case side3 => exact GL.below HG.out (by repeat (first | (with_reducible first | exact HB.out | apply below_alloc | apply pw_below_drewN | apply below_drew1 | refine below_set ?_ GE447.out | refine below_set ?_ GE448.out) | exact HB.out))); rintro e w92 ⟨v486, rfl, ho0, hb⟩; refine ⟨_, rfl, ?_⟩; have n0_ := Aside0.mk (Kd.R_elder' (by (with_reducible repeat (first | apply Kd.R_alloc | apply Kd.R_drewN | apply Kd.R_drew)); exact HO_7.out) (Kd.R_base ho0) hb); have n1_ := Aside0.mk (Kd.R_elder' (by (with_reducible repeat (first | apply Kd.R_alloc | apply Kd.R_drewN | apply Kd.R_drew)); exact HO_11.out) (Kd.R_base ho0) hb); have n2_ := Aside0.mk (Kd.R_elder' (by (with_reducible repeat (first | apply Kd.R_alloc | apply Kd.R_drewN | apply Kd.R_drew)); exact HO475.out) (Kd.R_base ho0) hb); have n3_ := Aside0.mk (Kd.R_elder' (by (with_reducible repeat (first | apply Kd.R_alloc | apply Kd.R_drewN | apply Kd.R_drew)); exact HO481.out) (Kd.R_base ho0) hb); have n4_ := Aside0.mk (Kd.R_lower (Kd.R_new' (Kd.R_new' (Kd.R_new' (Kd.R_new' ho0 (Kd.R_lt (by (with_reducible repeat (first | apply Kd.R_alloc | apply Kd.R_drewN | apply Kd.R_drew)); exact HO_7.out))) (Kd.R_lt (by (with_reducible repeat (first | apply Kd.R_alloc | apply Kd.R_drewN | apply Kd.R_drew)); exact HO_11.out))) (Kd.R_lt (by (with_reducible repeat (first | apply Kd.R_alloc | apply Kd.R_drewN | apply Kd.R_drew)); exact HO475.out))) (Kd.R_lt (by (with_reducible repeat (first | apply Kd.R_alloc | apply Kd.R_drewN | apply Kd.R_drew)); exact HO481.out))) (below_size (by repeat (first | (with_reducible first | exact HB.out | apply below_alloc | apply pw_below_drewN | apply below_drew1 | refine below_set ?_ GE447.out | refine below_set ?_ GE448.out) | exact HB.out)))); have n5_ := Aside0.mk (blk_below (g := gb447) (o := .cells #[.int .i64 a1_0, .int .i64 a1_1, .string a1_2] 51 (0, 0)) (by (with_reducible repeat (first | refine blk_drewN ?_ _ | refine blk_drew ?_ | refine blk_alloc ?_ _)); exact BK447.out) hb); have n6_ := Aside0.mk (blk_below (g := gb448) (o := .cells #[.int .i64 a2_0, .int .i64 a2_1, .string a2_2] 51 (0, 0)) (by (with_reducible repeat (first | refine blk_drewN ?_ _ | refine blk_drew ?_ | refine blk_alloc ?_ _)); exact BK448.out) hb); have n7_ := Aside0.mk (below_step (by repeat (first | (with_reducible first | exact HB.out | apply below_alloc | apply pw_below_drewN | apply below_drew1 | refine below_set ?_ GE447.out | refine below_set ?_ GE448.out) | exact HB.out)) hb); clear HO_7; clear HO_11; clear HO475; clear HO481; clear BK447; clear BK448; clear HB; have HO_7 := n0_; have HO_11 := n1_; have HO475 := n2_; have HO481 := n3_; have HO487 := n4_; have BK447 := n5_; have BK448 := n6_; have HB := n7_; clear n0_ n1_ n2_ n3_ n4_ n5_ n6_ n7_; (try clear hb); (try clear hb2); (try clear hk); (try clear hi); (try clear ho0); obtain ⟨Ao93, co93, eo93⟩ := Kd.R_slice HO475.out; subst eo93; obtain ⟨Ao94, co94, eo94⟩ := Kd.R_slice HO487.out; subst eo94) | (go_at_call 15; (with_reducible refine (madrigalref01_Same.calls kj55 _ _ t473 _ _ t485 t490 _ ?side1 ?side2 ?side3 ?side4 A83.out).mono ?_); (case side1 => repeat (first | exact (Kd.R_reads' HO475.out).2.2 | (with_reducible refine Kd.C_alloc ?_ _) | (with_reducible refine Kd.C_drewN ?_ _) | (with_reducible refine Kd.C_drew ?_))); (case side2 => exact (Kd.R_reads' HO475.out).2.1); (case side3 => repeat (first | exact (Kd.R_reads' HO487.out).2.2 | (with_reducible refine Kd.C_alloc ?_ _) | (with_reducible refine Kd.C_drewN ?_ _) | (with_reducible refine Kd.C_drew ?_))); (case side4 => exact (Kd.R_reads' HO487.out).2.1); rintro e w' ⟨rfl, ⟨nd, rfl⟩⟩))
                          go_ret
                          exact ⟨by first | rfl | (simp [errW_none, errW_some] <;> rfl) | (simp [*, errW_none, errW_some] <;> rfl), by repeat (first | (with_reducible first | exact HB.out | apply below_alloc | apply pw_below_drewN | apply below_drew1 | refine below_set ?_ GE447.out | refine below_set ?_ GE448.out) | exact HB.out)⟩
                         ·rw [if_neg c82] at H
                          have c82b0 : (t477 == t489) = false := beq_eq_false_iff_ne.mpr c82
                          have c82b1 : (t477 != t489) = true := bne_iff_ne.mpr c82
                          obtain rfl := Option.some.inj H
                          have hnb95 := NB448_447.out
                          have hnc95 := NB447_448.out
                          have hcz96_0 : wc.cell? ⟨gb448, 0, none⟩ = some (.int .i64 a2_0) := (blk_cell BK448.out 0).trans rfl
                          have hcz96_1 : wc.cell? ⟨gb448, 1, none⟩ = some (.int .i64 a2_1) := (blk_cell BK448.out 1).trans rfl
                          have hcz96_2 : wc.cell? ⟨gb448, 2, none⟩ = some (.string a2_2) := (blk_cell BK448.out 2).trans rfl
                          have hfz96_0 := blk_frozen BK448.out 0
                          have hfz96_1 := blk_frozen BK448.out 1
                          have hfz96_2 := blk_frozen BK448.out 2
                          have hcz97_0 : wc.cell? ⟨gb447, 0, none⟩ = some (.int .i64 a1_0) := (blk_cell BK447.out 0).trans rfl
                          have hcz97_1 : wc.cell? ⟨gb447, 1, none⟩ = some (.int .i64 a1_1) := (blk_cell BK447.out 1).trans rfl
                          have hcz97_2 : wc.cell? ⟨gb447, 2, none⟩ = some (.string a1_2) := (blk_cell BK447.out 2).trans rfl
                          have hfz97_0 := blk_frozen BK447.out 0
                          have hfz97_1 := blk_frozen BK447.out 1
                          have hfz97_2 := blk_frozen BK447.out 2
                          go_wp2_with (first | ((with_reducible refine gate_callee (f := 37) rfl ?_); refine goesL_ (some 181) rfl rfl Tryz.func37 (by kernel_rfl) rfl #[.string t459, .slice Ao49 t460.length co49, .agg #[.int .i64 (wrap64 ((wrap64 (a2_0 - a1_1)) + (a1_2.size : Int))), .int .i64 a2_1, .string a2_2]] rfl (by (try simp only [List.map_toArray, List.map_cons, List.map_nil]); first | done | rfl | (simp only [List.length_drop, List.length_take]; rfl)) ?_; (with_reducible refine (lex_Change.calls kj55 t459 _ _ t460 (wrap64 ((wrap64 (a2_0 - a1_1)) + (a1_2.size : Int))) a2_1 a2_2 t472 t473 t476 t477 _ ?side1 ?side2 A77.out ?side3).mono ?_); (case side1 => repeat (first | exact (Kd.R_reads' HO_11.out).2.2 | (with_reducible refine Kd.C_alloc ?_ _) | (with_reducible refine Kd.C_drewN ?_ _) | (with_reducible refine Kd.C_drew ?_))); (case side2 => exact (Kd.R_reads' HO_11.out).2.1); (case side3 => exact GL.below HG.out (by repeat (first | (with_reducible first | exact HB.out | apply below_alloc | apply pw_below_drewN | apply below_drew1 | refine below_set ?_ GE447.out | refine below_set ?_ GE448.out) | exact HB.out))); rintro e w98 ⟨v474, rfl, ho0, hb⟩; refine ⟨_, rfl, ?_⟩; have n0_ := Aside0.mk (Kd.R_elder' (by (with_reducible repeat (first | apply Kd.R_alloc | apply Kd.R_drewN | apply Kd.R_drew)); exact HO_7.out) (Kd.R_base ho0) hb); have n1_ := Aside0.mk (Kd.R_elder' (by (with_reducible repeat (first | apply Kd.R_alloc | apply Kd.R_drewN | apply Kd.R_drew)); exact HO_11.out) (Kd.R_base ho0) hb); have n2_ := Aside0.mk (Kd.R_lower (Kd.R_new' (Kd.R_new' ho0 (Kd.R_lt (by (with_reducible repeat (first | apply Kd.R_alloc | apply Kd.R_drewN | apply Kd.R_drew)); exact HO_7.out))) (Kd.R_lt (by (with_reducible repeat (first | apply Kd.R_alloc | apply Kd.R_drewN | apply Kd.R_drew)); exact HO_11.out))) (below_size (by repeat (first | (with_reducible first | exact HB.out | apply below_alloc | apply pw_below_drewN | apply below_drew1 | refine below_set ?_ GE447.out | refine below_set ?_ GE448.out) | exact HB.out)))); have n3_ := Aside0.mk (blk_below (g := gb447) (o := .cells #[.int .i64 a1_0, .int .i64 a1_1, .string a1_2] 51 (0, 0)) (by (with_reducible repeat (first | refine blk_drewN ?_ _ | refine blk_drew ?_ | refine blk_alloc ?_ _)); exact BK447.out) hb); have n4_ := Aside0.mk (blk_below (g := gb448) (o := .cells #[.int .i64 a2_0, .int .i64 a2_1, .string a2_2] 51 (0, 0)) (by (with_reducible repeat (first | refine blk_drewN ?_ _ | refine blk_drew ?_ | refine blk_alloc ?_ _)); exact BK448.out) hb); have n5_ := Aside0.mk (below_step (by repeat (first | (with_reducible first | exact HB.out | apply below_alloc | apply pw_below_drewN | apply below_drew1 | refine below_set ?_ GE447.out | refine below_set ?_ GE448.out) | exact HB.out)) hb); clear HO_7; clear HO_11; clear BK447; clear BK448; clear HB; have HO_7 := n0_; have HO_11 := n1_; have HO475 := n2_; have BK447 := n3_; have BK448 := n4_; have HB := n5_; clear n0_ n1_ n2_ n3_ n4_ n5_; (try clear hb); (try clear hb2); (try clear hk); (try clear hi); (try clear ho0); have hcz99_0 : w98.cell? ⟨gb448, 0, none⟩ = some (.int .i64 a2_0) := (blk_cell BK448.out 0).trans rfl; have hcz99_1 : w98.cell? ⟨gb448, 1, none⟩ = some (.int .i64 a2_1) := (blk_cell BK448.out 1).trans rfl; have hcz99_2 : w98.cell? ⟨gb448, 2, none⟩ = some (.string a2_2) := (blk_cell BK448.out 2).trans rfl; have hfz99_0 := blk_frozen BK448.out 0; have hfz99_1 := blk_frozen BK448.out 1; have hfz99_2 := blk_frozen BK448.out 2) | ((with_reducible refine gate_callee (f := 37) rfl ?_); refine goesL_ (some 190) rfl rfl Tryz.func37 (by kernel_rfl) rfl #[.string a0, .slice Ao23 t454.length co23, .agg #[.int .i64 a2_0, .int .i64 a2_1, .string a2_2]] rfl (by (try simp only [List.map_toArray, List.map_cons, List.map_nil]); first | done | rfl | (simp only [List.length_drop, List.length_take]; rfl)) ?_; (with_reducible refine (lex_Change.calls kj55 a0 _ _ t454 a2_0 a2_1 a2_2 t478 t479 t482 t483 _ ?side1 ?side2 A78.out ?side3).mono ?_); (case side1 => repeat (first | exact (Kd.R_reads' HO_7.out).2.2 | (with_reducible refine Kd.C_alloc ?_ _) | (with_reducible refine Kd.C_drewN ?_ _) | (with_reducible refine Kd.C_drew ?_))); (case side2 => exact (Kd.R_reads' HO_7.out).2.1); (case side3 => exact GL.below HG.out (by repeat (first | (with_reducible first | exact HB.out | apply below_alloc | apply pw_below_drewN | apply below_drew1 | refine below_set ?_ GE447.out | refine below_set ?_ GE448.out) | exact HB.out))); rintro e w100 ⟨v480, rfl, ho0, hb⟩; refine ⟨_, rfl, ?_⟩; have n0_ := Aside0.mk (Kd.R_elder' (by (with_reducible repeat (first | apply Kd.R_alloc | apply Kd.R_drewN | apply Kd.R_drew)); exact HO_7.out) (Kd.R_base ho0) hb); have n1_ := Aside0.mk (Kd.R_elder' (by (with_reducible repeat (first | apply Kd.R_alloc | apply Kd.R_drewN | apply Kd.R_drew)); exact HO_11.out) (Kd.R_base ho0) hb); have n2_ := Aside0.mk (Kd.R_elder' (by (with_reducible repeat (first | apply Kd.R_alloc | apply Kd.R_drewN | apply Kd.R_drew)); exact HO475.out) (Kd.R_base ho0) hb); have n3_ := Aside0.mk (Kd.R_lower (Kd.R_new' (Kd.R_new' (Kd.R_new' ho0 (Kd.R_lt (by (with_reducible repeat (first | apply Kd.R_alloc | apply Kd.R_drewN | apply Kd.R_drew)); exact HO_7.out))) (Kd.R_lt (by (with_reducible repeat (first | apply Kd.R_alloc | apply Kd.R_drewN | apply Kd.R_drew)); exact HO_11.out))) (Kd.R_lt (by (with_reducible repeat (first | apply Kd.R_alloc | apply Kd.R_drewN | apply Kd.R_drew)); exact HO475.out))) (below_size (by repeat (first | (with_reducible first | exact HB.out | apply below_alloc | apply pw_below_drewN | apply below_drew1 | refine below_set ?_ GE447.out | refine below_set ?_ GE448.out) | exact HB.out)))); have n4_ := Aside0.mk (blk_below (g := gb447) (o := .cells #[.int .i64 a1_0, .int .i64 a1_1, .string a1_2] 51 (0, 0)) (by (with_reducible repeat (first | refine blk_drewN ?_ _ | refine blk_drew ?_ | refine blk_alloc ?_ _)); exact BK447.out) hb); have n5_ := Aside0.mk (blk_below (g := gb448) (o := .cells #[.int .i64 a2_0, .int .i64 a2_1, .string a2_2] 51 (0, 0)) (by (with_reducible repeat (first | refine blk_drewN ?_ _ | refine blk_drew ?_ | refine blk_alloc ?_ _)); exact BK448.out) hb); have n6_ := Aside0.mk (below_step (by repeat (first | (with_reducible first | exact HB.out | apply below_alloc | apply pw_below_drewN | apply below_drew1 | refine below_set ?_ GE447.out | refine below_set ?_ GE448.out) | exact HB.out)) hb); clear HO_7; clear HO_11; clear HO475; clear BK447; clear BK448; clear HB; have HO_7 := n0_; have HO_11 := n1_; have HO475 := n2_; have HO481 := n3_; have BK447 := n4_; have BK448 := n5_; have HB := n6_; clear n0_ n1_ n2_ n3_ n4_ n5_ n6_; (try clear hb); (try clear hb2); (try clear hk); (try clear hi); (try clear ho0); have hcz101_0 : w100.cell? ⟨gb447, 0, none⟩ = some (.int .i64 a1_0) := (blk_cell BK447.out 0).trans rfl; have hcz101_1 : w100.cell? ⟨gb447, 1, none⟩ = some (.int .i64 a1_1) := (blk_cell BK447.out 1).trans rfl; have hcz101_2 : w100.cell? ⟨gb447, 2, none⟩ = some (.string a1_2) := (blk_cell BK447.out 2).trans rfl; have hfz101_0 := blk_frozen BK447.out 0; have hfz101_1 := blk_frozen BK447.out 1; have hfz101_2 := blk_frozen BK447.out 2; obtain ⟨Ao102, co102, eo102⟩ := Kd.R_slice HO481.out; subst eo102) | ((with_reducible refine gate_callee (f := 37) rfl ?_); refine goesL_ (some 201) rfl rfl Tryz.func37 (by kernel_rfl) rfl #[.string t478, .slice Ao102 t479.length co102, .agg #[.int .i64 a1_0, .int .i64 a1_1, .string a1_2]] rfl (by (try simp only [List.map_toArray, List.map_cons, List.map_nil]); first | done | rfl | (simp only [List.length_drop, List.length_take]; rfl)) ?_; (with_reducible refine (lex_Change.calls kj55 t478 _ _ t479 a1_0 a1_1 a1_2 t484 t485 t488 t489 _ ?side1 ?side2 A80.out ?side3).mono ?_); (case side1 => repeat (first | exact (Kd.R_reads' HO481.out).2.2 | (with_reducible refine Kd.C_alloc ?_ _) | (with_reducible refine Kd.C_drewN ?_ _) | (with_reducible refine Kd.C_drew ?_))); (case side2 => exact (Kd.R_reads' HO481.out).2.1); (case side3 => exact GL.below HG.out (by repeat (first | (with_reducible first | exact HB.out | apply below_alloc | apply pw_below_drewN | apply below_drew1 | refine below_set ?_ GE447.out | refine below_set ?_ GE448.out) | exact HB.out))); rintro e w103 ⟨v486, rfl, ho0, hb⟩; refine ⟨_, rfl, ?_⟩; have n0_ := Aside0.mk (Kd.R_elder' (by (with_reducible repeat (first | apply Kd.R_alloc | apply Kd.R_drewN | apply Kd.R_drew)); exact HO_7.out) (Kd.R_base ho0) hb); have n1_ := Aside0.mk (Kd.R_elder' (by (with_reducible repeat (first | apply Kd.R_alloc | apply Kd.R_drewN | apply Kd.R_drew)); exact HO_11.out) (Kd.R_base ho0) hb); have n2_ := Aside0.mk (Kd.R_elder' (by (with_reducible repeat (first | apply Kd.R_alloc | apply Kd.R_drewN | apply Kd.R_drew)); exact HO475.out) (Kd.R_base ho0) hb); have n3_ := Aside0.mk (Kd.R_elder' (by (with_reducible repeat (first | apply Kd.R_alloc | apply Kd.R_drewN | apply Kd.R_drew)); exact HO481.out) (Kd.R_base ho0) hb); have n4_ := Aside0.mk (Kd.R_lower (Kd.R_new' (Kd.R_new' (Kd.R_new' (Kd.R_new' ho0 (Kd.R_lt (by (with_reducible repeat (first | apply Kd.R_alloc | apply Kd.R_drewN | apply Kd.R_drew)); exact HO_7.out))) (Kd.R_lt (by (with_reducible repeat (first | apply Kd.R_alloc | apply Kd.R_drewN | apply Kd.R_drew)); exact HO_11.out))) (Kd.R_lt (by (with_reducible repeat (first | apply Kd.R_alloc | apply Kd.R_drewN | apply Kd.R_drew)); exact HO475.out))) (Kd.R_lt (by (with_reducible repeat (first | apply Kd.R_alloc | apply Kd.R_drewN | apply Kd.R_drew)); exact HO481.out))) (below_size (by repeat (first | (with_reducible first | exact HB.out | apply below_alloc | apply pw_below_drewN | apply below_drew1 | refine below_set ?_ GE447.out | refine below_set ?_ GE448.out) | exact HB.out)))); have n5_ := Aside0.mk (blk_below (g := gb447) (o := .cells #[.int .i64 a1_0, .int .i64 a1_1, .string a1_2] 51 (0, 0)) (by (with_reducible repeat (first | refine blk_drewN ?_ _ | refine blk_drew ?_ | refine blk_alloc ?_ _)); exact BK447.out) hb); have n6_ := Aside0.mk (blk_below (g := gb448) (o := .cells #[.int .i64 a2_0, .int .i64 a2_1, .string a2_2] 51 (0, 0)) (by (with_reducible repeat (first | refine blk_drewN ?_ _ | refine blk_drew ?_ | refine blk_alloc ?_ _)); exact BK448.out) hb); have n7_ := Aside0.mk (below_step (by repeat (first | (with_reducible first | exact HB.out | apply below_alloc | apply pw_below_drewN | apply below_drew1 | refine below_set ?_ GE447.out | refine below_set ?_ GE448.out) | exact HB.out)) hb); clear HO_7; clear HO_11; clear HO475; clear HO481; clear BK447; clear BK448; clear HB; have HO_7 := n0_; have HO_11 := n1_; have HO475 := n2_; have HO481 := n3_; have HO487 := n4_; have BK447 := n5_; have BK448 := n6_; have HB := n7_; clear n0_ n1_ n2_ n3_ n4_ n5_ n6_ n7_; (try clear hb); (try clear hb2); (try clear hk); (try clear hi); (try clear ho0)))
                          go_ret
                          exact ⟨by first | rfl | (simp [errW_none, errW_some] <;> rfl) | (simp [*, errW_none, errW_some] <;> rfl), by repeat (first | (with_reducible first | exact HB.out | apply below_alloc | apply pw_below_drewN | apply below_drew1 | refine below_set ?_ GE447.out | refine below_set ?_ GE448.out) | exact HB.out)⟩
                        ·rw [if_neg c81] at H
                         have c81b0 : (t472.toList == t484.toList) = false := beq_eq_false_iff_ne.mpr c81
                         have c81b1 : (t472.toList != t484.toList) = true := bne_iff_ne.mpr c81
                         obtain rfl := Option.some.inj H
                         have hnb104 := NB448_447.out
                         have hnc104 := NB447_448.out
                         have hcz105_0 : wc.cell? ⟨gb448, 0, none⟩ = some (.int .i64 a2_0) := (blk_cell BK448.out 0).trans rfl
                         have hcz105_1 : wc.cell? ⟨gb448, 1, none⟩ = some (.int .i64 a2_1) := (blk_cell BK448.out 1).trans rfl
                         have hcz105_2 : wc.cell? ⟨gb448, 2, none⟩ = some (.string a2_2) := (blk_cell BK448.out 2).trans rfl
                         have hfz105_0 := blk_frozen BK448.out 0
                         have hfz105_1 := blk_frozen BK448.out 1
                         have hfz105_2 := blk_frozen BK448.out 2
                         have hcz106_0 : wc.cell? ⟨gb447, 0, none⟩ = some (.int .i64 a1_0) := (blk_cell BK447.out 0).trans rfl
                         have hcz106_1 : wc.cell? ⟨gb447, 1, none⟩ = some (.int .i64 a1_1) := (blk_cell BK447.out 1).trans rfl
                         have hcz106_2 : wc.cell? ⟨gb447, 2, none⟩ = some (.string a1_2) := (blk_cell BK447.out 2).trans rfl
                         have hfz106_0 := blk_frozen BK447.out 0
                         have hfz106_1 := blk_frozen BK447.out 1
                         have hfz106_2 := blk_frozen BK447.out 2
                         go_wp2_with (first | ((with_reducible refine gate_callee (f := 37) rfl ?_); refine goesL_ (some 181) rfl rfl Tryz.func37 (by kernel_rfl) rfl #[.string t459, .slice Ao49 t460.length co49, .agg #[.int .i64 (wrap64 ((wrap64 (a2_0 - a1_1)) + (a1_2.size : Int))), .int .i64 a2_1, .string a2_2]] rfl (by (try simp only [List.map_toArray, List.map_cons, List.map_nil]); first | done | rfl | (simp only [List.length_drop, List.length_take]; rfl)) ?_; (with_reducible refine (lex_Change.calls kj55 t459 _ _ t460 (wrap64 ((wrap64 (a2_0 - a1_1)) + (a1_2.size : Int))) a2_1 a2_2 t472 t473 t476 t477 _ ?side1 ?side2 A77.out ?side3).mono ?_); (case side1 => repeat (first | exact (Kd.R_reads' HO_11.out).2.2 | (with_reducible refine Kd.C_alloc ?_ _) | (with_reducible refine Kd.C_drewN ?_ _) | (with_reducible refine Kd.C_drew ?_))); (case side2 => exact (Kd.R_reads' HO_11.out).2.1); (case side3 => exact GL.below HG.out (by repeat (first | (with_reducible first | exact HB.out | apply below_alloc | apply pw_below_drewN | apply below_drew1 | refine below_set ?_ GE447.out | refine below_set ?_ GE448.out) | exact HB.out))); rintro e w107 ⟨v474, rfl, ho0, hb⟩; refine ⟨_, rfl, ?_⟩; have n0_ := Aside0.mk (Kd.R_elder' (by (with_reducible repeat (first | apply Kd.R_alloc | apply Kd.R_drewN | apply Kd.R_drew)); exact HO_7.out) (Kd.R_base ho0) hb); have n1_ := Aside0.mk (Kd.R_elder' (by (with_reducible repeat (first | apply Kd.R_alloc | apply Kd.R_drewN | apply Kd.R_drew)); exact HO_11.out) (Kd.R_base ho0) hb); have n2_ := Aside0.mk (Kd.R_lower (Kd.R_new' (Kd.R_new' ho0 (Kd.R_lt (by (with_reducible repeat (first | apply Kd.R_alloc | apply Kd.R_drewN | apply Kd.R_drew)); exact HO_7.out))) (Kd.R_lt (by (with_reducible repeat (first | apply Kd.R_alloc | apply Kd.R_drewN | apply Kd.R_drew)); exact HO_11.out))) (below_size (by repeat (first | (with_reducible first | exact HB.out | apply below_alloc | apply pw_below_drewN | apply below_drew1 | refine below_set ?_ GE447.out | refine below_set ?_ GE448.out) | exact HB.out)))); have n3_ := Aside0.mk (blk_below (g := gb447) (o := .cells #[.int .i64 a1_0, .int .i64 a1_1, .string a1_2] 51 (0, 0)) (by (with_reducible repeat (first | refine blk_drewN ?_ _ | refine blk_drew ?_ | refine blk_alloc ?_ _)); exact BK447.out) hb); have n4_ := Aside0.mk (blk_below (g := gb448) (o := .cells #[.int .i64 a2_0, .int .i64 a2_1, .string a2_2] 51 (0, 0)) (by (with_reducible repeat (first | refine blk_drewN ?_ _ | refine blk_drew ?_ | refine blk_alloc ?_ _)); exact BK448.out) hb); have n5_ := Aside0.mk (below_step (by repeat (first | (with_reducible first | exact HB.out | apply below_alloc | apply pw_below_drewN | apply below_drew1 | refine below_set ?_ GE447.out | refine below_set ?_ GE448.out) | exact HB.out)) hb); clear HO_7; clear HO_11; clear BK447; clear BK448; clear HB; have HO_7 := n0_; have HO_11 := n1_; have HO475 := n2_; have BK447 := n3_; have BK448 := n4_; have HB := n5_; clear n0_ n1_ n2_ n3_ n4_ n5_; (try clear hb); (try clear hb2); (try clear hk); (try clear hi); (try clear ho0); have hcz108_0 : w107.cell? ⟨gb448, 0, none⟩ = some (.int .i64 a2_0) := (blk_cell BK448.out 0).trans rfl; have hcz108_1 : w107.cell? ⟨gb448, 1, none⟩ = some (.int .i64 a2_1) := (blk_cell BK448.out 1).trans rfl; have hcz108_2 : w107.cell? ⟨gb448, 2, none⟩ = some (.string a2_2) := (blk_cell BK448.out 2).trans rfl; have hfz108_0 := blk_frozen BK448.out 0; have hfz108_1 := blk_frozen BK448.out 1; have hfz108_2 := blk_frozen BK448.out 2) | ((with_reducible refine gate_callee (f := 37) rfl ?_); refine goesL_ (some 190) rfl rfl Tryz.func37 (by kernel_rfl) rfl #[.string a0, .slice Ao23 t454.length co23, .agg #[.int .i64 a2_0, .int .i64 a2_1, .string a2_2]] rfl (by (try simp only [List.map_toArray, List.map_cons, List.map_nil]); first | done | rfl | (simp only [List.length_drop, List.length_take]; rfl)) ?_; (with_reducible refine (lex_Change.calls kj55 a0 _ _ t454 a2_0 a2_1 a2_2 t478 t479 t482 t483 _ ?side1 ?side2 A78.out ?side3).mono ?_); (case side1 => repeat (first | exact (Kd.R_reads' HO_7.out).2.2 | (with_reducible refine Kd.C_alloc ?_ _) | (with_reducible refine Kd.C_drewN ?_ _) | (with_reducible refine Kd.C_drew ?_))); (case side2 => exact (Kd.R_reads' HO_7.out).2.1); (case side3 => exact GL.below HG.out (by repeat (first | (with_reducible first | exact HB.out | apply below_alloc | apply pw_below_drewN | apply below_drew1 | refine below_set ?_ GE447.out | refine below_set ?_ GE448.out) | exact HB.out))); rintro e w109 ⟨v480, rfl, ho0, hb⟩; refine ⟨_, rfl, ?_⟩; have n0_ := Aside0.mk (Kd.R_elder' (by (with_reducible repeat (first | apply Kd.R_alloc | apply Kd.R_drewN | apply Kd.R_drew)); exact HO_7.out) (Kd.R_base ho0) hb); have n1_ := Aside0.mk (Kd.R_elder' (by (with_reducible repeat (first | apply Kd.R_alloc | apply Kd.R_drewN | apply Kd.R_drew)); exact HO_11.out) (Kd.R_base ho0) hb); have n2_ := Aside0.mk (Kd.R_elder' (by (with_reducible repeat (first | apply Kd.R_alloc | apply Kd.R_drewN | apply Kd.R_drew)); exact HO475.out) (Kd.R_base ho0) hb); have n3_ := Aside0.mk (Kd.R_lower (Kd.R_new' (Kd.R_new' (Kd.R_new' ho0 (Kd.R_lt (by (with_reducible repeat (first | apply Kd.R_alloc | apply Kd.R_drewN | apply Kd.R_drew)); exact HO_7.out))) (Kd.R_lt (by (with_reducible repeat (first | apply Kd.R_alloc | apply Kd.R_drewN | apply Kd.R_drew)); exact HO_11.out))) (Kd.R_lt (by (with_reducible repeat (first | apply Kd.R_alloc | apply Kd.R_drewN | apply Kd.R_drew)); exact HO475.out))) (below_size (by repeat (first | (with_reducible first | exact HB.out | apply below_alloc | apply pw_below_drewN | apply below_drew1 | refine below_set ?_ GE447.out | refine below_set ?_ GE448.out) | exact HB.out)))); have n4_ := Aside0.mk (blk_below (g := gb447) (o := .cells #[.int .i64 a1_0, .int .i64 a1_1, .string a1_2] 51 (0, 0)) (by (with_reducible repeat (first | refine blk_drewN ?_ _ | refine blk_drew ?_ | refine blk_alloc ?_ _)); exact BK447.out) hb); have n5_ := Aside0.mk (blk_below (g := gb448) (o := .cells #[.int .i64 a2_0, .int .i64 a2_1, .string a2_2] 51 (0, 0)) (by (with_reducible repeat (first | refine blk_drewN ?_ _ | refine blk_drew ?_ | refine blk_alloc ?_ _)); exact BK448.out) hb); have n6_ := Aside0.mk (below_step (by repeat (first | (with_reducible first | exact HB.out | apply below_alloc | apply pw_below_drewN | apply below_drew1 | refine below_set ?_ GE447.out | refine below_set ?_ GE448.out) | exact HB.out)) hb); clear HO_7; clear HO_11; clear HO475; clear BK447; clear BK448; clear HB; have HO_7 := n0_; have HO_11 := n1_; have HO475 := n2_; have HO481 := n3_; have BK447 := n4_; have BK448 := n5_; have HB := n6_; clear n0_ n1_ n2_ n3_ n4_ n5_ n6_; (try clear hb); (try clear hb2); (try clear hk); (try clear hi); (try clear ho0); have hcz110_0 : w109.cell? ⟨gb447, 0, none⟩ = some (.int .i64 a1_0) := (blk_cell BK447.out 0).trans rfl; have hcz110_1 : w109.cell? ⟨gb447, 1, none⟩ = some (.int .i64 a1_1) := (blk_cell BK447.out 1).trans rfl; have hcz110_2 : w109.cell? ⟨gb447, 2, none⟩ = some (.string a1_2) := (blk_cell BK447.out 2).trans rfl; have hfz110_0 := blk_frozen BK447.out 0; have hfz110_1 := blk_frozen BK447.out 1; have hfz110_2 := blk_frozen BK447.out 2; obtain ⟨Ao111, co111, eo111⟩ := Kd.R_slice HO481.out; subst eo111) | ((with_reducible refine gate_callee (f := 37) rfl ?_); refine goesL_ (some 201) rfl rfl Tryz.func37 (by kernel_rfl) rfl #[.string t478, .slice Ao111 t479.length co111, .agg #[.int .i64 a1_0, .int .i64 a1_1, .string a1_2]] rfl (by (try simp only [List.map_toArray, List.map_cons, List.map_nil]); first | done | rfl | (simp only [List.length_drop, List.length_take]; rfl)) ?_; (with_reducible refine (lex_Change.calls kj55 t478 _ _ t479 a1_0 a1_1 a1_2 t484 t485 t488 t489 _ ?side1 ?side2 A80.out ?side3).mono ?_); (case side1 => repeat (first | exact (Kd.R_reads' HO481.out).2.2 | (with_reducible refine Kd.C_alloc ?_ _) | (with_reducible refine Kd.C_drewN ?_ _) | (with_reducible refine Kd.C_drew ?_))); (case side2 => exact (Kd.R_reads' HO481.out).2.1); (case side3 => exact GL.below HG.out (by repeat (first | (with_reducible first | exact HB.out | apply below_alloc | apply pw_below_drewN | apply below_drew1 | refine below_set ?_ GE447.out | refine below_set ?_ GE448.out) | exact HB.out))); rintro e w112 ⟨v486, rfl, ho0, hb⟩; refine ⟨_, rfl, ?_⟩; have n0_ := Aside0.mk (Kd.R_elder' (by (with_reducible repeat (first | apply Kd.R_alloc | apply Kd.R_drewN | apply Kd.R_drew)); exact HO_7.out) (Kd.R_base ho0) hb); have n1_ := Aside0.mk (Kd.R_elder' (by (with_reducible repeat (first | apply Kd.R_alloc | apply Kd.R_drewN | apply Kd.R_drew)); exact HO_11.out) (Kd.R_base ho0) hb); have n2_ := Aside0.mk (Kd.R_elder' (by (with_reducible repeat (first | apply Kd.R_alloc | apply Kd.R_drewN | apply Kd.R_drew)); exact HO475.out) (Kd.R_base ho0) hb); have n3_ := Aside0.mk (Kd.R_elder' (by (with_reducible repeat (first | apply Kd.R_alloc | apply Kd.R_drewN | apply Kd.R_drew)); exact HO481.out) (Kd.R_base ho0) hb); have n4_ := Aside0.mk (Kd.R_lower (Kd.R_new' (Kd.R_new' (Kd.R_new' (Kd.R_new' ho0 (Kd.R_lt (by (with_reducible repeat (first | apply Kd.R_alloc | apply Kd.R_drewN | apply Kd.R_drew)); exact HO_7.out))) (Kd.R_lt (by (with_reducible repeat (first | apply Kd.R_alloc | apply Kd.R_drewN | apply Kd.R_drew)); exact HO_11.out))) (Kd.R_lt (by (with_reducible repeat (first | apply Kd.R_alloc | apply Kd.R_drewN | apply Kd.R_drew)); exact HO475.out))) (Kd.R_lt (by (with_reducible repeat (first | apply Kd.R_alloc | apply Kd.R_drewN | apply Kd.R_drew)); exact HO481.out))) (below_size (by repeat (first | (with_reducible first | exact HB.out | apply below_alloc | apply pw_below_drewN | apply below_drew1 | refine below_set ?_ GE447.out | refine below_set ?_ GE448.out) | exact HB.out)))); have n5_ := Aside0.mk (blk_below (g := gb447) (o := .cells #[.int .i64 a1_0, .int .i64 a1_1, .string a1_2] 51 (0, 0)) (by (with_reducible repeat (first | refine blk_drewN ?_ _ | refine blk_drew ?_ | refine blk_alloc ?_ _)); exact BK447.out) hb); have n6_ := Aside0.mk (blk_below (g := gb448) (o := .cells #[.int .i64 a2_0, .int .i64 a2_1, .string a2_2] 51 (0, 0)) (by (with_reducible repeat (first | refine blk_drewN ?_ _ | refine blk_drew ?_ | refine blk_alloc ?_ _)); exact BK448.out) hb); have n7_ := Aside0.mk (below_step (by repeat (first | (with_reducible first | exact HB.out | apply below_alloc | apply pw_below_drewN | apply below_drew1 | refine below_set ?_ GE447.out | refine below_set ?_ GE448.out) | exact HB.out)) hb); clear HO_7; clear HO_11; clear HO475; clear HO481; clear BK447; clear BK448; clear HB; have HO_7 := n0_; have HO_11 := n1_; have HO475 := n2_; have HO481 := n3_; have HO487 := n4_; have BK447 := n5_; have BK448 := n6_; have HB := n7_; clear n0_ n1_ n2_ n3_ n4_ n5_ n6_ n7_; (try clear hb); (try clear hb2); (try clear hk); (try clear hi); (try clear ho0)))
                         go_ret
                         exact ⟨by first | rfl | (simp [errW_none, errW_some] <;> rfl) | (simp [*, errW_none, errW_some] <;> rfl), by repeat (first | (with_reducible first | exact HB.out | apply below_alloc | apply pw_below_drewN | apply below_drew1 | refine below_set ?_ GE447.out | refine below_set ?_ GE448.out) | exact HB.out)⟩
                       ·rw [if_neg c79] at H
                        have c79b0 : (t483 == 0) = false := beq_eq_false_iff_ne.mpr c79
                        have c79b1 : (t483 != 0) = true := bne_iff_ne.mpr c79
                        obtain rfl := Option.some.inj H
                        have hnb113 := NB448_447.out
                        have hnc113 := NB447_448.out
                        have hcz114_0 : wc.cell? ⟨gb448, 0, none⟩ = some (.int .i64 a2_0) := (blk_cell BK448.out 0).trans rfl
                        have hcz114_1 : wc.cell? ⟨gb448, 1, none⟩ = some (.int .i64 a2_1) := (blk_cell BK448.out 1).trans rfl
                        have hcz114_2 : wc.cell? ⟨gb448, 2, none⟩ = some (.string a2_2) := (blk_cell BK448.out 2).trans rfl
                        have hfz114_0 := blk_frozen BK448.out 0
                        have hfz114_1 := blk_frozen BK448.out 1
                        have hfz114_2 := blk_frozen BK448.out 2
                        have hcz115_0 : wc.cell? ⟨gb447, 0, none⟩ = some (.int .i64 a1_0) := (blk_cell BK447.out 0).trans rfl
                        have hcz115_1 : wc.cell? ⟨gb447, 1, none⟩ = some (.int .i64 a1_1) := (blk_cell BK447.out 1).trans rfl
                        have hcz115_2 : wc.cell? ⟨gb447, 2, none⟩ = some (.string a1_2) := (blk_cell BK447.out 2).trans rfl
                        have hfz115_0 := blk_frozen BK447.out 0
                        have hfz115_1 := blk_frozen BK447.out 1
                        have hfz115_2 := blk_frozen BK447.out 2
                        go_wp2_with (first | ((with_reducible refine gate_callee (f := 37) rfl ?_); refine goesL_ (some 181) rfl rfl Tryz.func37 (by kernel_rfl) rfl #[.string t459, .slice Ao49 t460.length co49, .agg #[.int .i64 (wrap64 ((wrap64 (a2_0 - a1_1)) + (a1_2.size : Int))), .int .i64 a2_1, .string a2_2]] rfl (by (try simp only [List.map_toArray, List.map_cons, List.map_nil]); first | done | rfl | (simp only [List.length_drop, List.length_take]; rfl)) ?_; (with_reducible refine (lex_Change.calls kj55 t459 _ _ t460 (wrap64 ((wrap64 (a2_0 - a1_1)) + (a1_2.size : Int))) a2_1 a2_2 t472 t473 t476 t477 _ ?side1 ?side2 A77.out ?side3).mono ?_); (case side1 => repeat (first | exact (Kd.R_reads' HO_11.out).2.2 | (with_reducible refine Kd.C_alloc ?_ _) | (with_reducible refine Kd.C_drewN ?_ _) | (with_reducible refine Kd.C_drew ?_))); (case side2 => exact (Kd.R_reads' HO_11.out).2.1); (case side3 => exact GL.below HG.out (by repeat (first | (with_reducible first | exact HB.out | apply below_alloc | apply pw_below_drewN | apply below_drew1 | refine below_set ?_ GE447.out | refine below_set ?_ GE448.out) | exact HB.out))); rintro e w116 ⟨v474, rfl, ho0, hb⟩; refine ⟨_, rfl, ?_⟩; have n0_ := Aside0.mk (Kd.R_elder' (by (with_reducible repeat (first | apply Kd.R_alloc | apply Kd.R_drewN | apply Kd.R_drew)); exact HO_7.out) (Kd.R_base ho0) hb); have n1_ := Aside0.mk (Kd.R_elder' (by (with_reducible repeat (first | apply Kd.R_alloc | apply Kd.R_drewN | apply Kd.R_drew)); exact HO_11.out) (Kd.R_base ho0) hb); have n2_ := Aside0.mk (Kd.R_lower (Kd.R_new' (Kd.R_new' ho0 (Kd.R_lt (by (with_reducible repeat (first | apply Kd.R_alloc | apply Kd.R_drewN | apply Kd.R_drew)); exact HO_7.out))) (Kd.R_lt (by (with_reducible repeat (first | apply Kd.R_alloc | apply Kd.R_drewN | apply Kd.R_drew)); exact HO_11.out))) (below_size (by repeat (first | (with_reducible first | exact HB.out | apply below_alloc | apply pw_below_drewN | apply below_drew1 | refine below_set ?_ GE447.out | refine below_set ?_ GE448.out) | exact HB.out)))); have n3_ := Aside0.mk (blk_below (g := gb447) (o := .cells #[.int .i64 a1_0, .int .i64 a1_1, .string a1_2] 51 (0, 0)) (by (with_reducible repeat (first | refine blk_drewN ?_ _ | refine blk_drew ?_ | refine blk_alloc ?_ _)); exact BK447.out) hb); have n4_ := Aside0.mk (blk_below (g := gb448) (o := .cells #[.int .i64 a2_0, .int .i64 a2_1, .string a2_2] 51 (0, 0)) (by (with_reducible repeat (first | refine blk_drewN ?_ _ | refine blk_drew ?_ | refine blk_alloc ?_ _)); exact BK448.out) hb); have n5_ := Aside0.mk (below_step (by repeat (first | (with_reducible first | exact HB.out | apply below_alloc | apply pw_below_drewN | apply below_drew1 | refine below_set ?_ GE447.out | refine below_set ?_ GE448.out) | exact HB.out)) hb); clear HO_7; clear HO_11; clear BK447; clear BK448; clear HB; have HO_7 := n0_; have HO_11 := n1_; have HO475 := n2_; have BK447 := n3_; have BK448 := n4_; have HB := n5_; clear n0_ n1_ n2_ n3_ n4_ n5_; (try clear hb); (try clear hb2); (try clear hk); (try clear hi); (try clear ho0); have hcz117_0 : w116.cell? ⟨gb448, 0, none⟩ = some (.int .i64 a2_0) := (blk_cell BK448.out 0).trans rfl; have hcz117_1 : w116.cell? ⟨gb448, 1, none⟩ = some (.int .i64 a2_1) := (blk_cell BK448.out 1).trans rfl; have hcz117_2 : w116.cell? ⟨gb448, 2, none⟩ = some (.string a2_2) := (blk_cell BK448.out 2).trans rfl; have hfz117_0 := blk_frozen BK448.out 0; have hfz117_1 := blk_frozen BK448.out 1; have hfz117_2 := blk_frozen BK448.out 2) | ((with_reducible refine gate_callee (f := 37) rfl ?_); refine goesL_ (some 190) rfl rfl Tryz.func37 (by kernel_rfl) rfl #[.string a0, .slice Ao23 t454.length co23, .agg #[.int .i64 a2_0, .int .i64 a2_1, .string a2_2]] rfl (by (try simp only [List.map_toArray, List.map_cons, List.map_nil]); first | done | rfl | (simp only [List.length_drop, List.length_take]; rfl)) ?_; (with_reducible refine (lex_Change.calls kj55 a0 _ _ t454 a2_0 a2_1 a2_2 t478 t479 t482 t483 _ ?side1 ?side2 A78.out ?side3).mono ?_); (case side1 => repeat (first | exact (Kd.R_reads' HO_7.out).2.2 | (with_reducible refine Kd.C_alloc ?_ _) | (with_reducible refine Kd.C_drewN ?_ _) | (with_reducible refine Kd.C_drew ?_))); (case side2 => exact (Kd.R_reads' HO_7.out).2.1); (case side3 => exact GL.below HG.out (by repeat (first | (with_reducible first | exact HB.out | apply below_alloc | apply pw_below_drewN | apply below_drew1 | refine below_set ?_ GE447.out | refine below_set ?_ GE448.out) | exact HB.out))); rintro e w118 ⟨v480, rfl, ho0, hb⟩; refine ⟨_, rfl, ?_⟩; have n0_ := Aside0.mk (Kd.R_elder' (by (with_reducible repeat (first | apply Kd.R_alloc | apply Kd.R_drewN | apply Kd.R_drew)); exact HO_7.out) (Kd.R_base ho0) hb); have n1_ := Aside0.mk (Kd.R_elder' (by (with_reducible repeat (first | apply Kd.R_alloc | apply Kd.R_drewN | apply Kd.R_drew)); exact HO_11.out) (Kd.R_base ho0) hb); have n2_ := Aside0.mk (Kd.R_elder' (by (with_reducible repeat (first | apply Kd.R_alloc | apply Kd.R_drewN | apply Kd.R_drew)); exact HO475.out) (Kd.R_base ho0) hb); have n3_ := Aside0.mk (Kd.R_lower (Kd.R_new' (Kd.R_new' (Kd.R_new' ho0 (Kd.R_lt (by (with_reducible repeat (first | apply Kd.R_alloc | apply Kd.R_drewN | apply Kd.R_drew)); exact HO_7.out))) (Kd.R_lt (by (with_reducible repeat (first | apply Kd.R_alloc | apply Kd.R_drewN | apply Kd.R_drew)); exact HO_11.out))) (Kd.R_lt (by (with_reducible repeat (first | apply Kd.R_alloc | apply Kd.R_drewN | apply Kd.R_drew)); exact HO475.out))) (below_size (by repeat (first | (with_reducible first | exact HB.out | apply below_alloc | apply pw_below_drewN | apply below_drew1 | refine below_set ?_ GE447.out | refine below_set ?_ GE448.out) | exact HB.out)))); have n4_ := Aside0.mk (blk_below (g := gb447) (o := .cells #[.int .i64 a1_0, .int .i64 a1_1, .string a1_2] 51 (0, 0)) (by (with_reducible repeat (first | refine blk_drewN ?_ _ | refine blk_drew ?_ | refine blk_alloc ?_ _)); exact BK447.out) hb); have n5_ := Aside0.mk (blk_below (g := gb448) (o := .cells #[.int .i64 a2_0, .int .i64 a2_1, .string a2_2] 51 (0, 0)) (by (with_reducible repeat (first | refine blk_drewN ?_ _ | refine blk_drew ?_ | refine blk_alloc ?_ _)); exact BK448.out) hb); have n6_ := Aside0.mk (below_step (by repeat (first | (with_reducible first | exact HB.out | apply below_alloc | apply pw_below_drewN | apply below_drew1 | refine below_set ?_ GE447.out | refine below_set ?_ GE448.out) | exact HB.out)) hb); clear HO_7; clear HO_11; clear HO475; clear BK447; clear BK448; clear HB; have HO_7 := n0_; have HO_11 := n1_; have HO475 := n2_; have HO481 := n3_; have BK447 := n4_; have BK448 := n5_; have HB := n6_; clear n0_ n1_ n2_ n3_ n4_ n5_ n6_; (try clear hb); (try clear hb2); (try clear hk); (try clear hi); (try clear ho0)))
                        go_ret
                        exact ⟨by first | rfl | (simp [errW_none, errW_some] <;> rfl) | (simp [*, errW_none, errW_some] <;> rfl), by repeat (first | (with_reducible first | exact HB.out | apply below_alloc | apply pw_below_drewN | apply below_drew1 | refine below_set ?_ GE447.out | refine below_set ?_ GE448.out) | exact HB.out)⟩
              ·rw [if_neg c45] at H
               exact absurd H (by simp)
             ·rw [if_neg c44] at H
              exact absurd H (by simp)
            ·rw [if_neg c43] at H
             exact absurd H (by simp)
   ·rw [if_neg c9] at H
    have c9b0 : (t456 == 0) = false := beq_eq_false_iff_ne.mpr c9
    have c9b1 : (t456 != 0) = true := bne_iff_ne.mpr c9
    obtain rfl := Option.some.inj H
    go_enter Tryz.func10, Tryz.ntmps10
    go_wp2_with (first | ((with_reducible refine gate_dst (N := 4) rfl ?_); (try (refine gate_guard (by rfl) ?_; dsimp only)); refine box_event ?hg (N := 4) ?hd (cs := #[.int .i64 a1_0, .int .i64 a1_1, .string a1_2]) (t := 51) ?hr ?_; (case hd => rfl); (case hg => rfl); (case hr => first | (go_simp; done) | (go_simp; rfl)); intro gb447 hg w119 hbox hb; have n0_ := Aside0.mk (below_step (by repeat (first | (with_reducible first | exact HB.out | apply below_alloc | apply pw_below_drewN | apply below_drew1) | exact HB.out)) hb); have n1_ := Aside0.mk (hbox); have n2_ := Aside0.mk ((by rw [hg]; exact (below_size (by repeat (first | (with_reducible first | exact HB.out | apply below_alloc | apply pw_below_drewN | apply below_drew1) | exact HB.out))) : w.heap.size ≤ gb447)); have n3_ := Aside0.mk ((by rw [hg]; exact (below_size (by repeat (first | (with_reducible first | exact HB.out | apply below_alloc | apply pw_below_drewN | apply below_drew1) | exact HB.out))) : w.heap.size ≤ gb447)); clear HB; have HB := n0_; have BK447 := n1_; have GW447 := n2_; have GE447 := n3_; clear n0_ n1_ n2_ n3_; clear hb hbox hg) | ((with_reducible refine gate_dst (N := 5) rfl ?_); (try (refine gate_guard (by rfl) ?_; dsimp only)); refine box_event ?hg (N := 5) ?hd (cs := #[.int .i64 a2_0, .int .i64 a2_1, .string a2_2]) (t := 51) ?hr ?_; (case hd => rfl); (case hg => rfl); (case hr => first | (go_simp; done) | (go_simp; rfl)); intro gb448 hg w120 hbox hb; have n0_ := Aside0.mk (blk_below (g := gb447) (o := .cells #[.int .i64 a1_0, .int .i64 a1_1, .string a1_2] 51 (0, 0)) (by (with_reducible repeat (first | refine blk_drewN ?_ _ | refine blk_drew ?_ | refine blk_alloc ?_ _)); exact BK447.out) hb); have n1_ := Aside0.mk (below_step (by repeat (first | (with_reducible first | exact HB.out | apply below_alloc | apply pw_below_drewN | apply below_drew1 | refine below_set ?_ GE447.out) | exact HB.out)) hb); have n2_ := Aside0.mk (hbox); have n3_ := Aside0.mk ((by rw [hg]; exact (below_size (by repeat (first | (with_reducible first | exact HB.out | apply below_alloc | apply pw_below_drewN | apply below_drew1 | refine below_set ?_ GE447.out) | exact HB.out))) : w.heap.size ≤ gb448)); have n4_ := Aside0.mk ((by rw [hg]; exact (below_size (by repeat (first | (with_reducible first | exact HB.out | apply below_alloc | apply pw_below_drewN | apply below_drew1 | refine below_set ?_ GE447.out) | exact HB.out))) : w.heap.size ≤ gb448)); have n5_ := Aside0.mk ((by rw [hg]; exact Nat.ne_of_lt (blk_lt (g := gb447) (o := .cells #[.int .i64 a1_0, .int .i64 a1_1, .string a1_2] 51 (0, 0)) (by (with_reducible repeat (first | refine blk_drewN ?_ _ | refine blk_drew ?_ | refine blk_alloc ?_ _)); exact BK447.out)) : gb447 ≠ gb448)); have n6_ := Aside0.mk ((by rw [hg]; exact Nat.ne_of_gt (blk_lt (g := gb447) (o := .cells #[.int .i64 a1_0, .int .i64 a1_1, .string a1_2] 51 (0, 0)) (by (with_reducible repeat (first | refine blk_drewN ?_ _ | refine blk_drew ?_ | refine blk_alloc ?_ _)); exact BK447.out)) : gb448 ≠ gb447)); clear BK447; clear HB; have BK447 := n0_; have HB := n1_; have BK448 := n2_; have GW448 := n3_; have GE448 := n4_; have NB447_448 := n5_; have NB448_447 := n6_; clear n0_ n1_ n2_ n3_ n4_ n5_ n6_; clear hb hbox hg) | ((with_reducible refine gate_callee (f := 11) rfl ?_); refine goesL_ (some 24) rfl rfl Tryz.func11 (by kernel_rfl) rfl #[] rfl (by (try simp only [List.map_toArray, List.map_cons, List.map_nil]); first | done | rfl | (simp only [List.length_drop, List.length_take]; rfl)) ?_; (with_reducible refine (madrigallaw01_sane.calls  true _ A4.out ?side1).mono ?_); (case side1 => exact GL.below HG.out (by repeat (first | (with_reducible first | exact HB.out | apply below_alloc | apply pw_below_drewN | apply below_drew1 | refine below_set ?_ GE447.out | refine below_set ?_ GE448.out) | exact HB.out))); rintro e w121 ⟨rfl, hb⟩; refine ⟨_, rfl, ?_⟩; have n0_ := Aside0.mk (blk_below (g := gb447) (o := .cells #[.int .i64 a1_0, .int .i64 a1_1, .string a1_2] 51 (0, 0)) (by (with_reducible repeat (first | refine blk_drewN ?_ _ | refine blk_drew ?_ | refine blk_alloc ?_ _)); exact BK447.out) hb); have n1_ := Aside0.mk (blk_below (g := gb448) (o := .cells #[.int .i64 a2_0, .int .i64 a2_1, .string a2_2] 51 (0, 0)) (by (with_reducible repeat (first | refine blk_drewN ?_ _ | refine blk_drew ?_ | refine blk_alloc ?_ _)); exact BK448.out) hb); have n2_ := Aside0.mk (below_step (by repeat (first | (with_reducible first | exact HB.out | apply below_alloc | apply pw_below_drewN | apply below_drew1 | refine below_set ?_ GE447.out | refine below_set ?_ GE448.out) | exact HB.out)) hb); clear BK447; clear BK448; clear HB; have BK447 := n0_; have BK448 := n1_; have HB := n2_; clear n0_ n1_ n2_; (try clear hb); (try clear hb2); (try clear hk); (try clear hi); have hnb122 := NB447_448.out; have hnc122 := NB448_447.out; have hcz123_0 : w121.cell? ⟨gb447, 0, none⟩ = some (.int .i64 a1_0) := (blk_cell BK447.out 0).trans rfl; have hcz123_1 : w121.cell? ⟨gb447, 1, none⟩ = some (.int .i64 a1_1) := (blk_cell BK447.out 1).trans rfl; have hcz123_2 : w121.cell? ⟨gb447, 2, none⟩ = some (.string a1_2) := (blk_cell BK447.out 2).trans rfl; have hfz123_0 := blk_frozen BK447.out 0; have hfz123_1 := blk_frozen BK447.out 1; have hfz123_2 := blk_frozen BK447.out 2; have hcz124_0 : w121.cell? ⟨gb448, 0, none⟩ = some (.int .i64 a2_0) := (blk_cell BK448.out 0).trans rfl; have hcz124_1 : w121.cell? ⟨gb448, 1, none⟩ = some (.int .i64 a2_1) := (blk_cell BK448.out 1).trans rfl; have hcz124_2 : w121.cell? ⟨gb448, 2, none⟩ = some (.string a2_2) := (blk_cell BK448.out 2).trans rfl; have hfz124_0 := blk_frozen BK448.out 0; have hfz124_1 := blk_frozen BK448.out 1; have hfz124_2 := blk_frozen BK448.out 2) | ((with_reducible refine gate_dst (N := 31) rfl ?_); (try (refine gate_guard (by rfl) ?_; dsimp only)); refine Kd.R_lit Kd.string _ 9 ?hg (N := 31) ?hd (xs := ([a0, a1_2, a2_2] : List ByteArray)) (inner := [.string a0, .string a1_2, .string a2_2]) (ok := fun _ => True) (okp := fun _ => True) ?hr ?hp (fun _ hk => hk) trivial (Below.refl _ _) (Nat.le_refl _) (by simp) ?_; (case hd => rfl); (case hg => rfl); (case hr => first | (go_simp; done) | (go_simp; rfl)); (case hp => exact (Reps.one (show Kd.M Kd.string _ _ _ a0 [.string a0] from rfl) (Reps.one (show Kd.M Kd.string _ _ _ a1_2 [.string a1_2] from rfl) (Reps.one (show Kd.M Kd.string _ _ _ a2_2 [.string a2_2] from rfl) (Reps.none _ _))))); intro v451 w125 ho126 hb hg_ hnew_; clear hg_ hnew_; (first | rw [← Ny450.out] at ho126 | (simp only [Int.reduceToNat] at ho126; rw [← Ny450.out] at ho126)); have n0_ := Aside0.mk (Kd.R_lower ho126 (below_size (by repeat (first | (with_reducible first | exact HB.out | apply below_alloc | apply pw_below_drewN | apply below_drew1 | refine below_set ?_ GE447.out | refine below_set ?_ GE448.out) | exact HB.out)))); have n1_ := Aside0.mk (blk_below (g := gb447) (o := .cells #[.int .i64 a1_0, .int .i64 a1_1, .string a1_2] 51 (0, 0)) (by (with_reducible repeat (first | refine blk_drewN ?_ _ | refine blk_drew ?_ | refine blk_alloc ?_ _)); exact BK447.out) hb); have n2_ := Aside0.mk (blk_below (g := gb448) (o := .cells #[.int .i64 a2_0, .int .i64 a2_1, .string a2_2] 51 (0, 0)) (by (with_reducible repeat (first | refine blk_drewN ?_ _ | refine blk_drew ?_ | refine blk_alloc ?_ _)); exact BK448.out) hb); have n3_ := Aside0.mk (below_step (by repeat (first | (with_reducible first | exact HB.out | apply below_alloc | apply pw_below_drewN | apply below_drew1 | refine below_set ?_ GE447.out | refine below_set ?_ GE448.out) | exact HB.out)) hb); clear BK447; clear BK448; clear HB; have HO452 := n0_; have BK447 := n1_; have BK448 := n2_; have HB := n3_; clear n0_ n1_ n2_ n3_; clear hb ho126; obtain ⟨Ao127, co127, eo127⟩ := Kd.R_slice HO452.out; subst eo127) | ((with_reducible refine gate_callee (f := 12) rfl ?_); refine goesL_ (some 32) rfl rfl Tryz.func12 (by kernel_rfl) rfl #[.slice Ao127 y450.length co127] rfl (by (try simp only [List.map_toArray, List.map_cons, List.map_nil]); first | done | rfl | (simp only [List.length_drop, List.length_take]; rfl)) ?_; (with_reducible refine (madrigallaw01_short.calls k _ _ y450 true _ ?side1 ?side2 A6.out).mono ?_); (case side1 => repeat (first | exact (Kd.R_reads' HO452.out).2.2 | (with_reducible refine Kd.C_alloc ?_ _) | (with_reducible refine Kd.C_drewN ?_ _) | (with_reducible refine Kd.C_drew ?_))); (case side2 => exact (Kd.R_reads' HO452.out).2.1); rintro e w' ⟨rfl, ⟨nd, rfl⟩⟩; refine ⟨_, rfl, ?_⟩) | ((with_reducible refine gate_callee (f := 13) rfl ?_); refine goesL_ (some 36) rfl rfl Tryz.func13 (by kernel_rfl) rfl #[.string a0] rfl (by (try simp only [List.map_toArray, List.map_cons, List.map_nil]); first | done | rfl | (simp only [List.length_drop, List.length_take]; rfl)) ?_; (with_reducible refine (lex_Tokens.calls a0 t454 t455 t456 _ A8.out ?side1).mono ?_); (case side1 => exact GL.below HG.out (by repeat (first | (with_reducible first | exact HB.out | apply below_alloc | apply pw_below_drewN | apply below_drew1 | refine below_set ?_ GE447.out | refine below_set ?_ GE448.out) | exact HB.out))); rintro e w128 ⟨v457, rfl, ho0, hb⟩; refine ⟨_, rfl, ?_⟩; have n0_ := Aside0.mk (Kd.R_below (by (with_reducible repeat (first | apply Kd.R_alloc | apply Kd.R_drewN | apply Kd.R_drew)); exact HO452.out) hb); have n1_ := Aside0.mk (Kd.R_lower ho0 (below_size (by repeat (first | (with_reducible first | exact HB.out | apply below_alloc | apply pw_below_drewN | apply below_drew1 | refine below_set ?_ GE447.out | refine below_set ?_ GE448.out) | exact HB.out)))); have n2_ := Aside0.mk (blk_below (g := gb447) (o := .cells #[.int .i64 a1_0, .int .i64 a1_1, .string a1_2] 51 (0, 0)) (by (with_reducible repeat (first | refine blk_drewN ?_ _ | refine blk_drew ?_ | refine blk_alloc ?_ _)); exact BK447.out) hb); have n3_ := Aside0.mk (blk_below (g := gb448) (o := .cells #[.int .i64 a2_0, .int .i64 a2_1, .string a2_2] 51 (0, 0)) (by (with_reducible repeat (first | refine blk_drewN ?_ _ | refine blk_drew ?_ | refine blk_alloc ?_ _)); exact BK448.out) hb); have n4_ := Aside0.mk (below_step (by repeat (first | (with_reducible first | exact HB.out | apply below_alloc | apply pw_below_drewN | apply below_drew1 | refine below_set ?_ GE447.out | refine below_set ?_ GE448.out) | exact HB.out)) hb); clear HO452; clear BK447; clear BK448; clear HB; have HO452 := n0_; have HO458 := n1_; have BK447 := n2_; have BK448 := n3_; have HB := n4_; clear n0_ n1_ n2_ n3_ n4_; (try clear hb); (try clear hb2); (try clear hk); (try clear hi); (try clear ho0)))
    go_ret
    exact ⟨by first | rfl | (simp [errW_none, errW_some] <;> rfl) | (simp [*, errW_none, errW_some] <;> rfl), by repeat (first | (with_reducible first | exact HB.out | apply below_alloc | apply pw_below_drewN | apply below_drew1 | refine below_set ?_ GE447.out | refine below_set ?_ GE448.out) | exact HB.out)⟩
  ·replace c7 := Bool.eq_false_iff.mpr c7
   subst c7
   have H1 : (some true) = some r := by rw [if_neg (show ¬ (false = true) by decide)] at H; exact H
   clear H
   have H := H1
   clear H1
   obtain rfl := Option.some.inj H
   go_enter Tryz.func10, Tryz.ntmps10
   go_wp2_with (first | ((with_reducible refine gate_dst (N := 4) rfl ?_); (try (refine gate_guard (by rfl) ?_; dsimp only)); refine box_event ?hg (N := 4) ?hd (cs := #[.int .i64 a1_0, .int .i64 a1_1, .string a1_2]) (t := 51) ?hr ?_; (case hd => rfl); (case hg => rfl); (case hr => first | (go_simp; done) | (go_simp; rfl)); intro gb447 hg w129 hbox hb; have n0_ := Aside0.mk (below_step (by repeat (first | (with_reducible first | exact HB.out | apply below_alloc | apply pw_below_drewN | apply below_drew1) | exact HB.out)) hb); have n1_ := Aside0.mk (hbox); have n2_ := Aside0.mk ((by rw [hg]; exact (below_size (by repeat (first | (with_reducible first | exact HB.out | apply below_alloc | apply pw_below_drewN | apply below_drew1) | exact HB.out))) : w.heap.size ≤ gb447)); have n3_ := Aside0.mk ((by rw [hg]; exact (below_size (by repeat (first | (with_reducible first | exact HB.out | apply below_alloc | apply pw_below_drewN | apply below_drew1) | exact HB.out))) : w.heap.size ≤ gb447)); clear HB; have HB := n0_; have BK447 := n1_; have GW447 := n2_; have GE447 := n3_; clear n0_ n1_ n2_ n3_; clear hb hbox hg) | ((with_reducible refine gate_dst (N := 5) rfl ?_); (try (refine gate_guard (by rfl) ?_; dsimp only)); refine box_event ?hg (N := 5) ?hd (cs := #[.int .i64 a2_0, .int .i64 a2_1, .string a2_2]) (t := 51) ?hr ?_; (case hd => rfl); (case hg => rfl); (case hr => first | (go_simp; done) | (go_simp; rfl)); intro gb448 hg w130 hbox hb; have n0_ := Aside0.mk (blk_below (g := gb447) (o := .cells #[.int .i64 a1_0, .int .i64 a1_1, .string a1_2] 51 (0, 0)) (by (with_reducible repeat (first | refine blk_drewN ?_ _ | refine blk_drew ?_ | refine blk_alloc ?_ _)); exact BK447.out) hb); have n1_ := Aside0.mk (below_step (by repeat (first | (with_reducible first | exact HB.out | apply below_alloc | apply pw_below_drewN | apply below_drew1 | refine below_set ?_ GE447.out) | exact HB.out)) hb); have n2_ := Aside0.mk (hbox); have n3_ := Aside0.mk ((by rw [hg]; exact (below_size (by repeat (first | (with_reducible first | exact HB.out | apply below_alloc | apply pw_below_drewN | apply below_drew1 | refine below_set ?_ GE447.out) | exact HB.out))) : w.heap.size ≤ gb448)); have n4_ := Aside0.mk ((by rw [hg]; exact (below_size (by repeat (first | (with_reducible first | exact HB.out | apply below_alloc | apply pw_below_drewN | apply below_drew1 | refine below_set ?_ GE447.out) | exact HB.out))) : w.heap.size ≤ gb448)); have n5_ := Aside0.mk ((by rw [hg]; exact Nat.ne_of_lt (blk_lt (g := gb447) (o := .cells #[.int .i64 a1_0, .int .i64 a1_1, .string a1_2] 51 (0, 0)) (by (with_reducible repeat (first | refine blk_drewN ?_ _ | refine blk_drew ?_ | refine blk_alloc ?_ _)); exact BK447.out)) : gb447 ≠ gb448)); have n6_ := Aside0.mk ((by rw [hg]; exact Nat.ne_of_gt (blk_lt (g := gb447) (o := .cells #[.int .i64 a1_0, .int .i64 a1_1, .string a1_2] 51 (0, 0)) (by (with_reducible repeat (first | refine blk_drewN ?_ _ | refine blk_drew ?_ | refine blk_alloc ?_ _)); exact BK447.out)) : gb448 ≠ gb447)); clear BK447; clear HB; have BK447 := n0_; have HB := n1_; have BK448 := n2_; have GW448 := n3_; have GE448 := n4_; have NB447_448 := n5_; have NB448_447 := n6_; clear n0_ n1_ n2_ n3_ n4_ n5_ n6_; clear hb hbox hg) | ((with_reducible refine gate_callee (f := 11) rfl ?_); refine goesL_ (some 24) rfl rfl Tryz.func11 (by kernel_rfl) rfl #[] rfl (by (try simp only [List.map_toArray, List.map_cons, List.map_nil]); first | done | rfl | (simp only [List.length_drop, List.length_take]; rfl)) ?_; (with_reducible refine (madrigallaw01_sane.calls  true _ A4.out ?side1).mono ?_); (case side1 => exact GL.below HG.out (by repeat (first | (with_reducible first | exact HB.out | apply below_alloc | apply pw_below_drewN | apply below_drew1 | refine below_set ?_ GE447.out | refine below_set ?_ GE448.out) | exact HB.out))); rintro e w131 ⟨rfl, hb⟩; refine ⟨_, rfl, ?_⟩; have n0_ := Aside0.mk (blk_below (g := gb447) (o := .cells #[.int .i64 a1_0, .int .i64 a1_1, .string a1_2] 51 (0, 0)) (by (with_reducible repeat (first | refine blk_drewN ?_ _ | refine blk_drew ?_ | refine blk_alloc ?_ _)); exact BK447.out) hb); have n1_ := Aside0.mk (blk_below (g := gb448) (o := .cells #[.int .i64 a2_0, .int .i64 a2_1, .string a2_2] 51 (0, 0)) (by (with_reducible repeat (first | refine blk_drewN ?_ _ | refine blk_drew ?_ | refine blk_alloc ?_ _)); exact BK448.out) hb); have n2_ := Aside0.mk (below_step (by repeat (first | (with_reducible first | exact HB.out | apply below_alloc | apply pw_below_drewN | apply below_drew1 | refine below_set ?_ GE447.out | refine below_set ?_ GE448.out) | exact HB.out)) hb); clear BK447; clear BK448; clear HB; have BK447 := n0_; have BK448 := n1_; have HB := n2_; clear n0_ n1_ n2_; (try clear hb); (try clear hb2); (try clear hk); (try clear hi); have hnb132 := NB447_448.out; have hnc132 := NB448_447.out; have hcz133_0 : w131.cell? ⟨gb447, 0, none⟩ = some (.int .i64 a1_0) := (blk_cell BK447.out 0).trans rfl; have hcz133_1 : w131.cell? ⟨gb447, 1, none⟩ = some (.int .i64 a1_1) := (blk_cell BK447.out 1).trans rfl; have hcz133_2 : w131.cell? ⟨gb447, 2, none⟩ = some (.string a1_2) := (blk_cell BK447.out 2).trans rfl; have hfz133_0 := blk_frozen BK447.out 0; have hfz133_1 := blk_frozen BK447.out 1; have hfz133_2 := blk_frozen BK447.out 2; have hcz134_0 : w131.cell? ⟨gb448, 0, none⟩ = some (.int .i64 a2_0) := (blk_cell BK448.out 0).trans rfl; have hcz134_1 : w131.cell? ⟨gb448, 1, none⟩ = some (.int .i64 a2_1) := (blk_cell BK448.out 1).trans rfl; have hcz134_2 : w131.cell? ⟨gb448, 2, none⟩ = some (.string a2_2) := (blk_cell BK448.out 2).trans rfl; have hfz134_0 := blk_frozen BK448.out 0; have hfz134_1 := blk_frozen BK448.out 1; have hfz134_2 := blk_frozen BK448.out 2) | ((with_reducible refine gate_dst (N := 31) rfl ?_); (try (refine gate_guard (by rfl) ?_; dsimp only)); refine Kd.R_lit Kd.string _ 9 ?hg (N := 31) ?hd (xs := ([a0, a1_2, a2_2] : List ByteArray)) (inner := [.string a0, .string a1_2, .string a2_2]) (ok := fun _ => True) (okp := fun _ => True) ?hr ?hp (fun _ hk => hk) trivial (Below.refl _ _) (Nat.le_refl _) (by simp) ?_; (case hd => rfl); (case hg => rfl); (case hr => first | (go_simp; done) | (go_simp; rfl)); (case hp => exact (Reps.one (show Kd.M Kd.string _ _ _ a0 [.string a0] from rfl) (Reps.one (show Kd.M Kd.string _ _ _ a1_2 [.string a1_2] from rfl) (Reps.one (show Kd.M Kd.string _ _ _ a2_2 [.string a2_2] from rfl) (Reps.none _ _))))); intro v451 w135 ho136 hb hg_ hnew_; clear hg_ hnew_; (first | rw [← Ny450.out] at ho136 | (simp only [Int.reduceToNat] at ho136; rw [← Ny450.out] at ho136)); have n0_ := Aside0.mk (Kd.R_lower ho136 (below_size (by repeat (first | (with_reducible first | exact HB.out | apply below_alloc | apply pw_below_drewN | apply below_drew1 | refine below_set ?_ GE447.out | refine below_set ?_ GE448.out) | exact HB.out)))); have n1_ := Aside0.mk (blk_below (g := gb447) (o := .cells #[.int .i64 a1_0, .int .i64 a1_1, .string a1_2] 51 (0, 0)) (by (with_reducible repeat (first | refine blk_drewN ?_ _ | refine blk_drew ?_ | refine blk_alloc ?_ _)); exact BK447.out) hb); have n2_ := Aside0.mk (blk_below (g := gb448) (o := .cells #[.int .i64 a2_0, .int .i64 a2_1, .string a2_2] 51 (0, 0)) (by (with_reducible repeat (first | refine blk_drewN ?_ _ | refine blk_drew ?_ | refine blk_alloc ?_ _)); exact BK448.out) hb); have n3_ := Aside0.mk (below_step (by repeat (first | (with_reducible first | exact HB.out | apply below_alloc | apply pw_below_drewN | apply below_drew1 | refine below_set ?_ GE447.out | refine below_set ?_ GE448.out) | exact HB.out)) hb); clear BK447; clear BK448; clear HB; have HO452 := n0_; have BK447 := n1_; have BK448 := n2_; have HB := n3_; clear n0_ n1_ n2_ n3_; clear hb ho136; obtain ⟨Ao137, co137, eo137⟩ := Kd.R_slice HO452.out; subst eo137) | ((with_reducible refine gate_callee (f := 12) rfl ?_); refine goesL_ (some 32) rfl rfl Tryz.func12 (by kernel_rfl) rfl #[.slice Ao137 y450.length co137] rfl (by (try simp only [List.map_toArray, List.map_cons, List.map_nil]); first | done | rfl | (simp only [List.length_drop, List.length_take]; rfl)) ?_; (with_reducible refine (madrigallaw01_short.calls k _ _ y450 false _ ?side1 ?side2 A6.out).mono ?_); (case side1 => repeat (first | exact (Kd.R_reads' HO452.out).2.2 | (with_reducible refine Kd.C_alloc ?_ _) | (with_reducible refine Kd.C_drewN ?_ _) | (with_reducible refine Kd.C_drew ?_))); (case side2 => exact (Kd.R_reads' HO452.out).2.1); rintro e w' ⟨rfl, ⟨nd, rfl⟩⟩; refine ⟨_, rfl, ?_⟩))
   go_ret
   exact ⟨by first | rfl | (simp [errW_none, errW_some] <;> rfl) | (simp [*, errW_none, errW_some] <;> rfl), by repeat (first | (with_reducible first | exact HB.out | apply below_alloc | apply pw_below_drewN | apply below_drew1 | refine below_set ?_ GE447.out | refine below_set ?_ GE448.out) | exact HB.out)⟩
 ·replace c5 := Bool.eq_false_iff.mpr c5
  subst c5
  have H1 : (some false) = some r := by rw [if_neg (show ¬ (false = true) by decide)] at H; exact H
  clear H
  have H := H1
  clear H1
  obtain rfl := Option.some.inj H
  go_enter Tryz.func10, Tryz.ntmps10
  go_wp2_with (first | ((with_reducible refine gate_dst (N := 4) rfl ?_); (try (refine gate_guard (by rfl) ?_; dsimp only)); refine box_event ?hg (N := 4) ?hd (cs := #[.int .i64 a1_0, .int .i64 a1_1, .string a1_2]) (t := 51) ?hr ?_; (case hd => rfl); (case hg => rfl); (case hr => first | (go_simp; done) | (go_simp; rfl)); intro gb447 hg w138 hbox hb; have n0_ := Aside0.mk (below_step (by repeat (first | (with_reducible first | exact HB.out | apply below_alloc | apply pw_below_drewN | apply below_drew1) | exact HB.out)) hb); have n1_ := Aside0.mk (hbox); have n2_ := Aside0.mk ((by rw [hg]; exact (below_size (by repeat (first | (with_reducible first | exact HB.out | apply below_alloc | apply pw_below_drewN | apply below_drew1) | exact HB.out))) : w.heap.size ≤ gb447)); have n3_ := Aside0.mk ((by rw [hg]; exact (below_size (by repeat (first | (with_reducible first | exact HB.out | apply below_alloc | apply pw_below_drewN | apply below_drew1) | exact HB.out))) : w.heap.size ≤ gb447)); clear HB; have HB := n0_; have BK447 := n1_; have GW447 := n2_; have GE447 := n3_; clear n0_ n1_ n2_ n3_; clear hb hbox hg) | ((with_reducible refine gate_dst (N := 5) rfl ?_); (try (refine gate_guard (by rfl) ?_; dsimp only)); refine box_event ?hg (N := 5) ?hd (cs := #[.int .i64 a2_0, .int .i64 a2_1, .string a2_2]) (t := 51) ?hr ?_; (case hd => rfl); (case hg => rfl); (case hr => first | (go_simp; done) | (go_simp; rfl)); intro gb448 hg w139 hbox hb; have n0_ := Aside0.mk (blk_below (g := gb447) (o := .cells #[.int .i64 a1_0, .int .i64 a1_1, .string a1_2] 51 (0, 0)) (by (with_reducible repeat (first | refine blk_drewN ?_ _ | refine blk_drew ?_ | refine blk_alloc ?_ _)); exact BK447.out) hb); have n1_ := Aside0.mk (below_step (by repeat (first | (with_reducible first | exact HB.out | apply below_alloc | apply pw_below_drewN | apply below_drew1 | refine below_set ?_ GE447.out) | exact HB.out)) hb); have n2_ := Aside0.mk (hbox); have n3_ := Aside0.mk ((by rw [hg]; exact (below_size (by repeat (first | (with_reducible first | exact HB.out | apply below_alloc | apply pw_below_drewN | apply below_drew1 | refine below_set ?_ GE447.out) | exact HB.out))) : w.heap.size ≤ gb448)); have n4_ := Aside0.mk ((by rw [hg]; exact (below_size (by repeat (first | (with_reducible first | exact HB.out | apply below_alloc | apply pw_below_drewN | apply below_drew1 | refine below_set ?_ GE447.out) | exact HB.out))) : w.heap.size ≤ gb448)); have n5_ := Aside0.mk ((by rw [hg]; exact Nat.ne_of_lt (blk_lt (g := gb447) (o := .cells #[.int .i64 a1_0, .int .i64 a1_1, .string a1_2] 51 (0, 0)) (by (with_reducible repeat (first | refine blk_drewN ?_ _ | refine blk_drew ?_ | refine blk_alloc ?_ _)); exact BK447.out)) : gb447 ≠ gb448)); have n6_ := Aside0.mk ((by rw [hg]; exact Nat.ne_of_gt (blk_lt (g := gb447) (o := .cells #[.int .i64 a1_0, .int .i64 a1_1, .string a1_2] 51 (0, 0)) (by (with_reducible repeat (first | refine blk_drewN ?_ _ | refine blk_drew ?_ | refine blk_alloc ?_ _)); exact BK447.out)) : gb448 ≠ gb447)); clear BK447; clear HB; have BK447 := n0_; have HB := n1_; have BK448 := n2_; have GW448 := n3_; have GE448 := n4_; have NB447_448 := n5_; have NB448_447 := n6_; clear n0_ n1_ n2_ n3_ n4_ n5_ n6_; clear hb hbox hg) | ((with_reducible refine gate_callee (f := 11) rfl ?_); refine goesL_ (some 24) rfl rfl Tryz.func11 (by kernel_rfl) rfl #[] rfl (by (try simp only [List.map_toArray, List.map_cons, List.map_nil]); first | done | rfl | (simp only [List.length_drop, List.length_take]; rfl)) ?_; (with_reducible refine (madrigallaw01_sane.calls  false _ A4.out ?side1).mono ?_); (case side1 => exact GL.below HG.out (by repeat (first | (with_reducible first | exact HB.out | apply below_alloc | apply pw_below_drewN | apply below_drew1 | refine below_set ?_ GE447.out | refine below_set ?_ GE448.out) | exact HB.out))); rintro e w140 ⟨rfl, hb⟩; refine ⟨_, rfl, ?_⟩; have n0_ := Aside0.mk (blk_below (g := gb447) (o := .cells #[.int .i64 a1_0, .int .i64 a1_1, .string a1_2] 51 (0, 0)) (by (with_reducible repeat (first | refine blk_drewN ?_ _ | refine blk_drew ?_ | refine blk_alloc ?_ _)); exact BK447.out) hb); have n1_ := Aside0.mk (blk_below (g := gb448) (o := .cells #[.int .i64 a2_0, .int .i64 a2_1, .string a2_2] 51 (0, 0)) (by (with_reducible repeat (first | refine blk_drewN ?_ _ | refine blk_drew ?_ | refine blk_alloc ?_ _)); exact BK448.out) hb); have n2_ := Aside0.mk (below_step (by repeat (first | (with_reducible first | exact HB.out | apply below_alloc | apply pw_below_drewN | apply below_drew1 | refine below_set ?_ GE447.out | refine below_set ?_ GE448.out) | exact HB.out)) hb); clear BK447; clear BK448; clear HB; have BK447 := n0_; have BK448 := n1_; have HB := n2_; clear n0_ n1_ n2_; (try clear hb); (try clear hb2); (try clear hk); (try clear hi)))
  go_ret
  exact ⟨by first | rfl | (simp [errW_none, errW_some] <;> rfl) | (simp [*, errW_none, errW_some] <;> rfl), by repeat (first | (with_reducible first | exact HB.out | apply below_alloc | apply pw_below_drewN | apply below_drew1 | refine below_set ?_ GE447.out | refine below_set ?_ GE448.out) | exact HB.out)⟩
end Go.Proofs.YtglgppkjgodlkaaGreatDoor.P
