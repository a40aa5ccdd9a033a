-- Printed by a program of this session (myprint.py, resplit.py), which drives the kit's printer; Lean checks every row.
import Derived.Test.YtglgppkjgodlkaaGreatDoorP0
import Derived.Test.YtglgppkjgodlkaaGreatDoorP1
import Derived.Test.YtglgppkjgodlkaaGreatDoorG0
import Derived.Test.YtglgppkjgodlkaaGreatDoorG1
import Derived.Test.YtglgppkjgodlkaaGreatDoorG10
import Derived.Test.YtglgppkjgodlkaaGreatDoorG11
import Derived.Test.YtglgppkjgodlkaaGreatDoorG2
import Derived.Test.YtglgppkjgodlkaaGreatDoorG3
import Derived.Test.YtglgppkjgodlkaaGreatDoorG4
import Derived.Test.YtglgppkjgodlkaaGreatDoorG5
import Derived.Test.YtglgppkjgodlkaaGreatDoorG6
import Derived.Test.YtglgppkjgodlkaaGreatDoorG7
import Derived.Test.YtglgppkjgodlkaaGreatDoorG8
import Derived.Test.YtglgppkjgodlkaaGreatDoorG9
namespace Go.Proofs.YtglgppkjgodlkaaGreatDoor.P
open Go.Proofs.YtglgppkjgodlkaaGreatDoorW.PrintLast Go.Proofs.YtglgppkjgodlkaaGreatDoorW.PrintMore Go.Proofs.YtglgppkjgodlkaaGreatDoorW.PrintWords Go.RowKit
attribute [local go_sem] max2_int min2_int max_two min_two max_three min_three max_four min_four   -- for this text's walks alone
set_option linter.unusedVariables false
set_option linter.unusedSimpArgs false
attribute [local go_sem high] eqA38

/-! ### madrigallaw01_LexBlanks: function 5 -/
mutual
def madrigallaw01_LexBlanks.j0 : Nat → ByteArray → ByteArray → Int → Bool → Option (Bool)
 | 0, _, _, _, _ => none
 | k + 1, x0, x1, x2, x32 => if x32 = true then (some true) else ((lex_Tokens.f x0).bind fun bt494 => (if bt494.2.2 = 0 then (if (IntKind.u64.wrap (wrap64 ((bt494.1.length : Int) + 1))) = 0 then (none) else (if (wrap64 (Int.tmod (IntKind.u64.wrap (x2)) (IntKind.u64.wrap (wrap64 ((bt494.1.length : Int) + 1))))) < (bt494.1.length : Int) then (if 0 ≤ (wrap64 (Int.tmod (IntKind.u64.wrap (x2)) (IntKind.u64.wrap (wrap64 ((bt494.1.length : Int) + 1))))) then (madrigallaw01_LexBlanks.j1 k x0 x1 bt494.1 (wrap64 (Int.tmod (IntKind.u64.wrap (x2)) (IntKind.u64.wrap (wrap64 ((bt494.1.length : Int) + 1))))) ((rd_T38 bt494.1 (wrap64 (Int.tmod (IntKind.u64.wrap (x2)) (IntKind.u64.wrap (wrap64 ((bt494.1.length : Int) + 1)))))).f3)) else (none)) else (madrigallaw01_LexBlanks.j1 k x0 x1 bt494.1 (wrap64 (Int.tmod (IntKind.u64.wrap (x2)) (IntKind.u64.wrap (wrap64 ((bt494.1.length : Int) + 1))))) (x0.size : Int)))) else (some ((bt494.1.length : Int) == 0))))
def madrigallaw01_LexBlanks.j1 : Nat → ByteArray → ByteArray → List (S38) → Int → Int → Option (Bool)
 | 0, _, _, _, _, _ => none
 | k + 1, x0, x1, x7, x10, x11 => if x11 < 0 then (madrigallaw01_LexBlanks.j2 k x0 x1 x7 x10 x11 true) else (madrigallaw01_LexBlanks.j2 k x0 x1 x7 x10 x11 (decide (x11 > (x0.size : Int))))
def madrigallaw01_LexBlanks.j2 : Nat → ByteArray → ByteArray → List (S38) → Int → Int → Bool → Option (Bool)
 | 0, _, _, _, _, _, _ => none
 | k + 1, x0, x1, x7, x10, x11, x70 => if x70 = true then (some false) else (if 0 ≤ x11 then (if x11 ≤ (x0.size : Int) then (if (x0.extract 0 (x11 : Int).toNat).size + 1 ≤ 9223372036854775807 then (if ((x0.extract 0 (x11 : Int).toNat) ++ (⟨#[32]⟩ : ByteArray)).size + x1.size ≤ 9223372036854775807 then (if (((x0.extract 0 (x11 : Int).toNat) ++ (⟨#[32]⟩ : ByteArray)) ++ x1).size + 1 ≤ 9223372036854775807 then (if ((((x0.extract 0 (x11 : Int).toNat) ++ (⟨#[32]⟩ : ByteArray)) ++ x1) ++ (⟨#[32]⟩ : ByteArray)).size + (x0.extract (x11 : Int).toNat x0.size).size ≤ 9223372036854775807 then ((lex_Tokens.f (((((x0.extract 0 (x11 : Int).toNat) ++ (⟨#[32]⟩ : ByteArray)) ++ x1) ++ (⟨#[32]⟩ : ByteArray)) ++ (x0.extract (x11 : Int).toNat x0.size))).bind fun bt500 => (if bt500.2.2 = 0 then (madrigallaw01_LexBlanks.j3 k x0 x1 x7 x10 bt500.1 ((bt500.1.length : Int) != (x7.length : Int))) else (madrigallaw01_LexBlanks.j3 k x0 x1 x7 x10 bt500.1 true))) else (none)) else (none)) else (none)) else (none)) else (none)) else (none))
def madrigallaw01_LexBlanks.j3 : Nat → ByteArray → ByteArray → List (S38) → Int → List (S38) → Bool → Option (Bool)
 | 0, _, _, _, _, _, _ => none
 | k + 1, x0, x1, x7, x10, x12, x95 => if x95 = true then (some (decide ((wrap64 ((wrap64 ((x0.size : Int) + (x1.size : Int))) + 2)) > 100000))) else (madrigallaw01_LexBlanks.l0 k x1 x7 x10 x12 (x12.length : Int) 0)
def madrigallaw01_LexBlanks.l0 : Nat → ByteArray → List (S38) → Int → List (S38) → Int → Int → Option (Bool)
 | 0, _, _, _, _, _, _ => none
 | k + 1, x1, x7, x10, x103, x104, x105 => if x105 < x104 then (if 0 ≤ x105 then (if x105 < (x103.length : Int) then (if x105 ≥ x10 then (if x105 < (x7.length : Int) then ((madrigalref01_Like.f ((rd_T38 x103 x105).f0) ((rd_T38 x103 x105).f1) ((rd_T38 x103 x105).f2) ((rd_T38 x103 x105).f3) ((rd_T38 x103 x105).f4) ((rd_T38 x7 x105).f0) ((rd_T38 x7 x105).f1) ((rd_T38 x7 x105).f2) ((rd_T38 x7 x105).f3) ((rd_T38 x7 x105).f4)).bind fun t508 => (if t508 = true then (if ((rd_T38 x103 x105).f3) = (wrap64 (((rd_T38 x7 x105).f3) + (wrap64 ((x1.size : Int) + 2)))) then (if ((rd_T38 x103 x105).f4) = (wrap64 (((rd_T38 x7 x105).f4) + (wrap64 ((x1.size : Int) + 2)))) then (madrigallaw01_LexBlanks.l0 k x1 x7 x10 x103 x104 (wrap64 (x105 + 1))) else (some false)) else (some false)) else (some false))) else (none)) else (if x105 < (x7.length : Int) then ((madrigalref01_Like.f ((rd_T38 x103 x105).f0) ((rd_T38 x103 x105).f1) ((rd_T38 x103 x105).f2) ((rd_T38 x103 x105).f3) ((rd_T38 x103 x105).f4) ((rd_T38 x7 x105).f0) ((rd_T38 x7 x105).f1) ((rd_T38 x7 x105).f2) ((rd_T38 x7 x105).f3) ((rd_T38 x7 x105).f4)).bind fun t512 => (if t512 = true then (if ((rd_T38 x103 x105).f3) = (wrap64 (((rd_T38 x7 x105).f3) + 0)) then (if ((rd_T38 x103 x105).f4) = (wrap64 (((rd_T38 x7 x105).f4) + 0)) then (madrigallaw01_LexBlanks.l0 k x1 x7 x10 x103 x104 (wrap64 (x105 + 1))) else (some false)) else (some false)) else (some false))) else (none))) else (none)) else (none)) else (some true)
end
def madrigallaw01_LexBlanks.f (k : Nat) (a0 : ByteArray) (a1 : ByteArray) (a2 : Int) : Option (Bool) := (madrigallaw01_sane.f).bind fun t488 => (if t488 = true then ((madrigallaw01_short.f k (([a0, a1] : List ByteArray))).bind fun t492 => (if t492 = true then ((madrigallaw01_filling.f k a1).bind fun t493 => (if t493 = true then (madrigallaw01_LexBlanks.j0 k a0 a1 a2 (a1.toList == ([] : List UInt8))) else (madrigallaw01_LexBlanks.j0 k a0 a1 a2 true))) else (madrigallaw01_LexBlanks.j0 k a0 a1 a2 true))) else (some false))
theorem madrigallaw01_LexBlanks.mono_l : ∀ k, (∀ y0 y1 y2 y3, LeO (madrigallaw01_LexBlanks.j0 k y0 y1 y2 y3) (madrigallaw01_LexBlanks.j0 (k + 1) y0 y1 y2 y3)) ∧ (∀ y0 y1 y2 y3 y4, LeO (madrigallaw01_LexBlanks.j1 k y0 y1 y2 y3 y4) (madrigallaw01_LexBlanks.j1 (k + 1) y0 y1 y2 y3 y4)) ∧ (∀ y0 y1 y2 y3 y4 y5, LeO (madrigallaw01_LexBlanks.j2 k y0 y1 y2 y3 y4 y5) (madrigallaw01_LexBlanks.j2 (k + 1) y0 y1 y2 y3 y4 y5)) ∧ (∀ y0 y1 y2 y3 y4 y5, LeO (madrigallaw01_LexBlanks.j3 k y0 y1 y2 y3 y4 y5) (madrigallaw01_LexBlanks.j3 (k + 1) y0 y1 y2 y3 y4 y5)) ∧ (∀ y0 y1 y2 y3 y4 y5, LeO (madrigallaw01_LexBlanks.l0 k y0 y1 y2 y3 y4 y5) (madrigallaw01_LexBlanks.l0 (k + 1) y0 y1 y2 y3 y4 y5))
 | 0 => ⟨fun _ _ _ _ r h => by simp [madrigallaw01_LexBlanks.j0] at h, fun _ _ _ _ _ r h => by simp [madrigallaw01_LexBlanks.j1] at h, fun _ _ _ _ _ _ r h => by simp [madrigallaw01_LexBlanks.j2] at h, fun _ _ _ _ _ _ r h => by simp [madrigallaw01_LexBlanks.j3] at h, fun _ _ _ _ _ _ r h => by simp [madrigallaw01_LexBlanks.l0] at h⟩
 | k + 1 => by
  obtain ⟨ih0, ih1, ih2, ih3, ih4⟩ := madrigallaw01_LexBlanks.mono_l k
  refine ⟨?_, ?_, ?_, ?_, ?_⟩
  ·intro y0 y1 y2 y3
   unfold madrigallaw01_LexBlanks.j0
   repeat' first
   | (with_reducible exact ih0 _ _ _ _)
   | (with_reducible exact ih1 _ _ _ _ _)
   | (with_reducible exact ih2 _ _ _ _ _ _)
   | (with_reducible exact ih3 _ _ _ _ _ _)
   | (with_reducible exact ih4 _ _ _ _ _ _)
   | (with_reducible exact madrigallaw01_filling.mono _ _)
   | (with_reducible exact madrigallaw01_short.mono _ _)
   | (with_reducible exact LeO.refl _)
   | (with_reducible exact LeO.none _)
   | (with_reducible refine LeO.ite ?_ ?_)
   | (with_reducible refine LeO.bind ?_ (fun _ => ?_))
   | exact ih0 _ _ _ _
   | exact ih1 _ _ _ _ _
   | exact ih2 _ _ _ _ _ _
   | exact ih3 _ _ _ _ _ _
   | exact ih4 _ _ _ _ _ _
   | exact madrigallaw01_filling.mono _ _
   | exact madrigallaw01_short.mono _ _
   | exact LeO.none _
   | refine LeO.ite ?_ ?_
   | refine LeO.bind ?_ (fun _ => ?_)
  ·intro y0 y1 y2 y3 y4
   unfold madrigallaw01_LexBlanks.j1
   repeat' first
   | (with_reducible exact ih0 _ _ _ _)
   | (with_reducible exact ih1 _ _ _ _ _)
   | (with_reducible exact ih2 _ _ _ _ _ _)
   | (with_reducible exact ih3 _ _ _ _ _ _)
   | (with_reducible exact ih4 _ _ _ _ _ _)
   | (with_reducible exact madrigallaw01_filling.mono _ _)
   | (with_reducible exact madrigallaw01_short.mono _ _)
   | (with_reducible exact LeO.refl _)
   | (with_reducible exact LeO.none _)
   | (with_reducible refine LeO.ite ?_ ?_)
   | (with_reducible refine LeO.bind ?_ (fun _ => ?_))
   | exact ih0 _ _ _ _
   | exact ih1 _ _ _ _ _
   | exact ih2 _ _ _ _ _ _
   | exact ih3 _ _ _ _ _ _
   | exact ih4 _ _ _ _ _ _
   | exact madrigallaw01_filling.mono _ _
   | exact madrigallaw01_short.mono _ _
   | exact LeO.none _
   | refine LeO.ite ?_ ?_
   | refine LeO.bind ?_ (fun _ => ?_)
  ·intro y0 y1 y2 y3 y4 y5
   unfold madrigallaw01_LexBlanks.j2
   repeat' first
   | (with_reducible exact ih0 _ _ _ _)
   | (with_reducible exact ih1 _ _ _ _ _)
   | (with_reducible exact ih2 _ _ _ _ _ _)
   | (with_reducible exact ih3 _ _ _ _ _ _)
   | (with_reducible exact ih4 _ _ _ _ _ _)
   | (with_reducible exact madrigallaw01_filling.mono _ _)
   | (with_reducible exact madrigallaw01_short.mono _ _)
   | (with_reducible exact LeO.refl _)
   | (with_reducible exact LeO.none _)
   | (with_reducible refine LeO.ite ?_ ?_)
   | (with_reducible refine LeO.bind ?_ (fun _ => ?_))
   | exact ih0 _ _ _ _
   | exact ih1 _ _ _ _ _
   | exact ih2 _ _ _ _ _ _
   | exact ih3 _ _ _ _ _ _
   | exact ih4 _ _ _ _ _ _
   | exact madrigallaw01_filling.mono _ _
   | exact madrigallaw01_short.mono _ _
   | exact LeO.none _
   | refine LeO.ite ?_ ?_
   | refine LeO.bind ?_ (fun _ => ?_)
  ·intro y0 y1 y2 y3 y4 y5
   unfold madrigallaw01_LexBlanks.j3
   repeat' first
   | (with_reducible exact ih0 _ _ _ _)
   | (with_reducible exact ih1 _ _ _ _ _)
   | (with_reducible exact ih2 _ _ _ _ _ _)
   | (with_reducible exact ih3 _ _ _ _ _ _)
   | (with_reducible exact ih4 _ _ _ _ _ _)
   | (with_reducible exact madrigallaw01_filling.mono _ _)
   | (with_reducible exact madrigallaw01_short.mono _ _)
   | (with_reducible exact LeO.refl _)
   | (with_reducible exact LeO.none _)
   | (with_reducible refine LeO.ite ?_ ?_)
   | (with_reducible refine LeO.bind ?_ (fun _ => ?_))
   | exact ih0 _ _ _ _
   | exact ih1 _ _ _ _ _
   | exact ih2 _ _ _ _ _ _
   | exact ih3 _ _ _ _ _ _
   | exact ih4 _ _ _ _ _ _
   | exact madrigallaw01_filling.mono _ _
   | exact madrigallaw01_short.mono _ _
   | exact LeO.none _
   | refine LeO.ite ?_ ?_
   | refine LeO.bind ?_ (fun _ => ?_)
  ·intro y0 y1 y2 y3 y4 y5
   unfold madrigallaw01_LexBlanks.l0
   repeat' first
   | (with_reducible exact ih0 _ _ _ _)
   | (with_reducible exact ih1 _ _ _ _ _)
   | (with_reducible exact ih2 _ _ _ _ _ _)
   | (with_reducible exact ih3 _ _ _ _ _ _)
   | (with_reducible exact ih4 _ _ _ _ _ _)
   | (with_reducible exact madrigallaw01_filling.mono _ _)
   | (with_reducible exact madrigallaw01_short.mono _ _)
   | (with_reducible exact LeO.refl _)
   | (with_reducible exact LeO.none _)
   | (with_reducible refine LeO.ite ?_ ?_)
   | (with_reducible refine LeO.bind ?_ (fun _ => ?_))
   | exact ih0 _ _ _ _
   | exact ih1 _ _ _ _ _
   | exact ih2 _ _ _ _ _ _
   | exact ih3 _ _ _ _ _ _
   | exact ih4 _ _ _ _ _ _
   | exact madrigallaw01_filling.mono _ _
   | exact madrigallaw01_short.mono _ _
   | exact LeO.none _
   | refine LeO.ite ?_ ?_
   | refine LeO.bind ?_ (fun _ => ?_)
theorem madrigallaw01_LexBlanks.mono : ∀ a0 a1 a2 k, LeO (madrigallaw01_LexBlanks.f k a0 a1 a2) (madrigallaw01_LexBlanks.f (k + 1) a0 a1 a2) := by
 intro a0 a1 a2 k
 obtain ⟨ih0, ih1, ih2, ih3, ih4⟩ := madrigallaw01_LexBlanks.mono_l k
 unfold madrigallaw01_LexBlanks.f
 repeat' first
   | (with_reducible exact ih0 _ _ _ _)
   | (with_reducible exact ih1 _ _ _ _ _)
   | (with_reducible exact ih2 _ _ _ _ _ _)
   | (with_reducible exact ih3 _ _ _ _ _ _)
   | (with_reducible exact ih4 _ _ _ _ _ _)
   | (with_reducible exact madrigallaw01_filling.mono _ _)
   | (with_reducible exact madrigallaw01_short.mono _ _)
   | (with_reducible exact LeO.refl _)
   | (with_reducible exact LeO.none _)
   | (with_reducible refine LeO.ite ?_ ?_)
   | (with_reducible refine LeO.bind ?_ (fun _ => ?_))
   | exact ih0 _ _ _ _
   | exact ih1 _ _ _ _ _
   | exact ih2 _ _ _ _ _ _
   | exact ih3 _ _ _ _ _ _
   | exact ih4 _ _ _ _ _ _
   | exact madrigallaw01_filling.mono _ _
   | exact madrigallaw01_short.mono _ _
   | exact LeO.none _
   | refine LeO.ite ?_ ?_
   | refine LeO.bind ?_ (fun _ => ?_)
def madrigallaw01_LexBlanks.T14 : Bool × List (List Nat × List Nat) := (true, [([], []), ([], []), ([0, 1], [0, 1]), ([2], [2]), ([], []), ([3, 4], [3, 4]), ([5], [5]), ([], []), ([], []), ([7, 8], [7, 8]), ([6, 9], [6, 9]), ([10], [10]), ([11], [11]), ([12], [12]), ([12], [12]), ([12], [12]), ([13, 11, 0, 1, 2, 3, 4, 5, 6, 7, 8, 9, 10, 11, 12, 13], [13]), ([14, 16, 0, 1, 2, 3, 4, 5, 6, 7, 8, 9, 10, 11, 12, 13, 14, 16], [14]), ([15, 17, 0, 1, 2, 3, 4, 5, 6, 7, 8, 9, 10, 11, 12, 13, 14, 15, 16, 17], [15])])
def madrigallaw01_LexBlanks.B14 : List Nat := [0, 0, 3, 7, 0, 31, 63, 0, 0, 384, 1023, 2047, 4095, 8191, 8191, 8191, 16383, 98303, 262143]
theorem madrigallaw01_LexBlanks.tab14 : rtab .any (opsOf Tryz.f5 14) = madrigallaw01_LexBlanks.T14 := by kernel_rfl
theorem madrigallaw01_LexBlanks.bits14 : waitsOk madrigallaw01_LexBlanks.T14.2 madrigallaw01_LexBlanks.B14 = true := by kernel_rfl
def madrigallaw01_LexBlanks.T23 : Bool × List (List Nat × List Nat) := (true, [([], []), ([], []), ([], []), ([1, 2], [1, 2]), ([3], [3]), ([0, 4], [0, 4]), ([5], [5]), ([6, 5], [6]), ([7], [7]), ([8, 7], [7, 8]), ([7], [7]), ([7], [7]), ([10, 11, 7], [7, 10, 11]), ([12, 7], [7, 12]), ([13, 7], [7, 13]), ([7], [7]), ([14, 15, 7], [7, 14, 15]), ([9, 16, 7], [7, 9, 16]), ([7, 17], [7, 17]), ([18, 7], [18]), ([19], [19]), ([20, 19], [19, 20]), ([19], [19]), ([19], [19]), ([22, 23, 19], [19, 22, 23]), ([24, 19], [19, 24]), ([25, 19], [19, 25]), ([19], [19]), ([26, 27, 19], [19, 26, 27]), ([21, 28, 19], [19, 21, 28]), ([19, 29], [19, 29])])
def madrigallaw01_LexBlanks.B23 : List Nat := [0, 0, 0, 6, 14, 31, 63, 127, 255, 511, 255, 255, 3327, 7423, 15615, 255, 64767, 131071, 262143, 524287, 1048575, 2097151, 1048575, 1048575, 13631487, 30408703, 63963135, 1048575, 265289727, 536870911, 1073741823]
theorem madrigallaw01_LexBlanks.tab23 : rtab .any (opsOf Tryz.f5 23) = madrigallaw01_LexBlanks.T23 := by kernel_rfl
theorem madrigallaw01_LexBlanks.bits23 : waitsOk madrigallaw01_LexBlanks.T23.2 madrigallaw01_LexBlanks.B23 = true := by kernel_rfl
set_option maxHeartbeats 8000000 in
set_option maxRecDepth 100000 in
theorem madrigallaw01_LexBlanks.calls (k : Nat) (a0 : ByteArray) (a1 : ByteArray) (a2 : Int) (r : Bool) (hr0 : r = true) (w : World) (h : madrigallaw01_LexBlanks.f k a0 a1 a2 = some r) (hG : GL w) :
  Calls Tryz.prog 5 #[.string a0, .string a1, .int .i64 a2] w fun e w' => e = .returned (.bool r) ∧ Below w.heap.size w w' := by
 have HR_ := Aside0.mk hr0
 clear hr0
 have hu38 := Tryz.underlying38
 have HG := Aside0.mk hG
 clear hG
 have HB := Aside0.mk (Below.refl w.heap.size w)
 have H : ((madrigallaw01_sane.f).bind fun t488 => (if t488 = true then ((madrigallaw01_short.f k (([a0, a1] : List ByteArray))).bind fun t492 => (if t492 = true then ((madrigallaw01_filling.f k a1).bind fun t493 => (if t493 = true then (madrigallaw01_LexBlanks.j0 k a0 a1 a2 (a1.toList == ([] : List UInt8))) else (madrigallaw01_LexBlanks.j0 k a0 a1 a2 true))) else (madrigallaw01_LexBlanks.j0 k a0 a1 a2 true))) else (some false))) = some r := h
 clear h
 replace H := Option.bind_eq_some_iff.mp H
 obtain ⟨t488, A40, H⟩ := H
 replace H : (if t488 = true then ((madrigallaw01_short.f k (([a0, a1] : List ByteArray))).bind fun t492 => (if t492 = true then ((madrigallaw01_filling.f k a1).bind fun t493 => (if t493 = true then (madrigallaw01_LexBlanks.j0 k a0 a1 a2 (a1.toList == ([] : List UInt8))) else (madrigallaw01_LexBlanks.j0 k a0 a1 a2 true))) else (madrigallaw01_LexBlanks.j0 k a0 a1 a2 true))) else (some false)) = some r := H
 have A4 := Aside0.mk A40
 clear A40
 by_cases c5 : t488 = true
 ·subst c5
  have H1 : ((madrigallaw01_short.f k (([a0, a1] : List ByteArray))).bind fun t492 => (if t492 = true then ((madrigallaw01_filling.f k a1).bind fun t493 => (if t493 = true then (madrigallaw01_LexBlanks.j0 k a0 a1 a2 (a1.toList == ([] : List UInt8))) else (madrigallaw01_LexBlanks.j0 k a0 a1 a2 true))) else (madrigallaw01_LexBlanks.j0 k a0 a1 a2 true))) = some r := by rw [if_pos rfl] at H; exact H
  clear H
  have H := H1
  clear H1
  have HC6 := Aside0.mk H
  clear H
  go_enter Tryz.func5, Tryz.ntmps5
  go_upto_region 3 with (first | ((with_reducible refine gate_callee (f := 11) rfl ?_); refine goesL_ (some 17) rfl rfl Tryz.func11 (by kernel_rfl) rfl #[] rfl (by (try simp only [List.map_toArray, List.map_cons, List.map_nil]); first | done | rfl | (simp only [List.length_drop, List.length_take]; rfl)) ?_; (with_reducible refine (madrigallaw01_sane.calls  true _ A4.out ?side1).mono ?_); (case side1 => exact GL.below HG.out (by repeat (first | (with_reducible first | exact HB.out | apply below_alloc | apply pw_below_drewN | apply below_drew1) | exact HB.out))); rintro e w7 ⟨rfl, hb⟩; refine ⟨_, rfl, ?_⟩; have n0_ := Aside0.mk (below_step (by repeat (first | (with_reducible first | exact HB.out | apply below_alloc | apply pw_below_drewN | apply below_drew1) | exact HB.out)) hb); clear HB; have HB := n0_; clear n0_; (try clear hb); (try clear hb2); (try clear hk); (try clear hi)))
  (try simp only [Act.put, List.setIfInBounds_toArray, List.set_cons_zero, List.set_cons_succ])
  go_cut [32] (fun v32 wc => ∃ (kq : Nat) (x32_5 : Bool), v32 = .bool x32_5 ∧ Aside0 (madrigallaw01_LexBlanks.j0 kq a0 a1 a2 x32_5 = some r) ∧ Aside0 (kq ≤ k) ∧ Aside0 (Below w.heap.size w wc))
  case first =>
   have H := HC6.out
   clear HC6
   obtain ⟨y489, hy489⟩ : ∃ y_ : List ByteArray, y_ = (([a0, a1] : List ByteArray)) := ⟨_, rfl⟩
   replace H : ((madrigallaw01_short.f k y489).bind fun t492 => (if t492 = true then ((madrigallaw01_filling.f k a1).bind fun t493 => (if t493 = true then (madrigallaw01_LexBlanks.j0 k a0 a1 a2 (a1.toList == ([] : List UInt8))) else (madrigallaw01_LexBlanks.j0 k a0 a1 a2 true))) else (madrigallaw01_LexBlanks.j0 k a0 a1 a2 true))) = some r := by first | (rw [hy489]; with_reducible exact H) | (have H2_ := (Option.bind_some _ _).symm.trans H; rw [hy489]; with_reducible exact H2_) | (have H2_ := (Option.bind_some _ _).symm.trans H; with_reducible exact H2_) | with_reducible exact H | (rw [hy489]; exact H) | exact H
   have Ny489 := Aside0.mk hy489
   clear hy489
   replace H := Option.bind_eq_some_iff.mp H
   obtain ⟨t492, A80, H⟩ := H
   replace H : (if t492 = true then ((madrigallaw01_filling.f k a1).bind fun t493 => (if t493 = true then (madrigallaw01_LexBlanks.j0 k a0 a1 a2 (a1.toList == ([] : List UInt8))) else (madrigallaw01_LexBlanks.j0 k a0 a1 a2 true))) else (madrigallaw01_LexBlanks.j0 k a0 a1 a2 true)) = some r := H
   have A8 := Aside0.mk A80
   clear A80
   by_cases c9 : t492 = true
   ·subst c9
    have H1 : ((madrigallaw01_filling.f k a1).bind fun t493 => (if t493 = true then (madrigallaw01_LexBlanks.j0 k a0 a1 a2 (a1.toList == ([] : List UInt8))) else (madrigallaw01_LexBlanks.j0 k a0 a1 a2 true))) = some r := by rw [if_pos rfl] at H; exact H
    clear H
    have H := H1
    clear H1
    replace H := Option.bind_eq_some_iff.mp H
    obtain ⟨t493, A100, H⟩ := H
    replace H : (if t493 = true then (madrigallaw01_LexBlanks.j0 k a0 a1 a2 (a1.toList == ([] : List UInt8))) else (madrigallaw01_LexBlanks.j0 k a0 a1 a2 true)) = some r := H
    have A10 := Aside0.mk A100
    clear A100
    by_cases c11 : t493 = true
    ·subst c11
     have H1 : (madrigallaw01_LexBlanks.j0 k a0 a1 a2 (a1.toList == ([] : List UInt8))) = some r := by rw [if_pos rfl] at H; exact H
     clear H
     have H := H1
     clear H1
     have H' := Aside0.mk H
     clear H
     go_wp2_with (first | ((with_reducible refine gate_dst (N := 21) rfl ?_); (try (refine gate_guard (by rfl) ?_; dsimp only)); refine Kd.R_lit Kd.string _ 9 ?hg (N := 21) ?hd (xs := ([a0, a1] : List ByteArray)) (inner := [.string a0, .string a1]) (ok := fun _ => True) (okp := fun _ => True) ?hr ?hp (fun _ hk => hk) trivial (Below.refl _ _) (Nat.le_refl _) (by simp) ?_; (case hd => rfl); (case hg => rfl); (case hr => first | (go_simp; done) | (go_simp; rfl)); (case hp => exact (Reps.one (show Kd.M Kd.string _ _ _ a0 [.string a0] from rfl) (Reps.one (show Kd.M Kd.string _ _ _ a1 [.string a1] from rfl) (Reps.none _ _)))); intro v490 w12 ho13 hb hg_ hnew_; clear hg_ hnew_; (first | rw [← Ny489.out] at ho13 | (simp only [Int.reduceToNat] at ho13; rw [← Ny489.out] at ho13)); have n0_ := Aside0.mk (Kd.R_lower ho13 (below_size (by repeat (first | (with_reducible first | exact HB.out | apply below_alloc | apply pw_below_drewN | apply below_drew1) | exact HB.out)))); have n1_ := Aside0.mk (below_step (by repeat (first | (with_reducible first | exact HB.out | apply below_alloc | apply pw_below_drewN | apply below_drew1) | exact HB.out)) hb); clear HB; have HO491 := n0_; have HB := n1_; clear n0_ n1_; clear hb ho13; obtain ⟨Ao14, co14, eo14⟩ := Kd.R_slice HO491.out; subst eo14) | ((with_reducible refine gate_callee (f := 12) rfl ?_); refine goesL_ (some 22) rfl rfl Tryz.func12 (by kernel_rfl) rfl #[.slice Ao14 y489.length co14] rfl (by (try simp only [List.map_toArray, List.map_cons, List.map_nil]); first | done | rfl | (simp only [List.length_drop, List.length_take]; rfl)) ?_; (with_reducible refine (madrigallaw01_short.calls k _ _ y489 true _ ?side1 ?side2 A8.out).mono ?_); (case side1 => repeat (first | exact (Kd.R_reads' HO491.out).2.2 | (with_reducible refine Kd.C_alloc ?_ _) | (with_reducible refine Kd.C_drewN ?_ _) | (with_reducible refine Kd.C_drew ?_))); (case side2 => exact (Kd.R_reads' HO491.out).2.1); rintro e w' ⟨rfl, ⟨nd, rfl⟩⟩; refine ⟨_, rfl, ?_⟩) | (go_at_call 28; (with_reducible refine (madrigallaw01_filling.calls k a1 true _ A10.out).mono ?_); rintro e w15 ⟨rfl, hb⟩; have n0_ := Aside0.mk (Kd.R_below (by (with_reducible repeat (first | apply Kd.R_alloc | apply Kd.R_drewN | apply Kd.R_drew)); exact HO491.out) hb); have n1_ := Aside0.mk (below_step (by repeat (first | (with_reducible first | exact HB.out | apply below_alloc | apply pw_below_drewN | apply below_drew1) | exact HB.out)) hb); clear HO491; clear HB; have HO491 := n0_; have HB := n1_; clear n0_ n1_; (try clear hb); (try clear hb2); (try clear hk); (try clear hi)))
     go_meet
     case rel => exact ⟨_, ((a1.toList == ([] : List UInt8))), (by first | rfl | (simp; done) | (simp [*]; done)), H', ⟨by first | omega | exact Nat.le_refl _⟩, ⟨by repeat (first | (with_reducible first | exact HB.out | apply below_alloc | apply pw_below_drewN | apply below_drew1) | exact HB.out)⟩⟩
    ·replace c11 := Bool.eq_false_iff.mpr c11
     subst c11
     have H1 : (madrigallaw01_LexBlanks.j0 k a0 a1 a2 true) = some r := by rw [if_neg (show ¬ (false = true) by decide)] at H; exact H
     clear H
     have H := H1
     clear H1
     have H' := Aside0.mk H
     clear H
     go_wp2_with (first | ((with_reducible refine gate_dst (N := 21) rfl ?_); (try (refine gate_guard (by rfl) ?_; dsimp only)); refine Kd.R_lit Kd.string _ 9 ?hg (N := 21) ?hd (xs := ([a0, a1] : List ByteArray)) (inner := [.string a0, .string a1]) (ok := fun _ => True) (okp := fun _ => True) ?hr ?hp (fun _ hk => hk) trivial (Below.refl _ _) (Nat.le_refl _) (by simp) ?_; (case hd => rfl); (case hg => rfl); (case hr => first | (go_simp; done) | (go_simp; rfl)); (case hp => exact (Reps.one (show Kd.M Kd.string _ _ _ a0 [.string a0] from rfl) (Reps.one (show Kd.M Kd.string _ _ _ a1 [.string a1] from rfl) (Reps.none _ _)))); intro v490 w16 ho17 hb hg_ hnew_; clear hg_ hnew_; (first | rw [← Ny489.out] at ho17 | (simp only [Int.reduceToNat] at ho17; rw [← Ny489.out] at ho17)); have n0_ := Aside0.mk (Kd.R_lower ho17 (below_size (by repeat (first | (with_reducible first | exact HB.out | apply below_alloc | apply pw_below_drewN | apply below_drew1) | exact HB.out)))); have n1_ := Aside0.mk (below_step (by repeat (first | (with_reducible first | exact HB.out | apply below_alloc | apply pw_below_drewN | apply below_drew1) | exact HB.out)) hb); clear HB; have HO491 := n0_; have HB := n1_; clear n0_ n1_; clear hb ho17; obtain ⟨Ao18, co18, eo18⟩ := Kd.R_slice HO491.out; subst eo18) | ((with_reducible refine gate_callee (f := 12) rfl ?_); refine goesL_ (some 22) rfl rfl Tryz.func12 (by kernel_rfl) rfl #[.slice Ao18 y489.length co18] rfl (by (try simp only [List.map_toArray, List.map_cons, List.map_nil]); first | done | rfl | (simp only [List.length_drop, List.length_take]; rfl)) ?_; (with_reducible refine (madrigallaw01_short.calls k _ _ y489 true _ ?side1 ?side2 A8.out).mono ?_); (case side1 => repeat (first | exact (Kd.R_reads' HO491.out).2.2 | (with_reducible refine Kd.C_alloc ?_ _) | (with_reducible refine Kd.C_drewN ?_ _) | (with_reducible refine Kd.C_drew ?_))); (case side2 => exact (Kd.R_reads' HO491.out).2.1); rintro e w' ⟨rfl, ⟨nd, rfl⟩⟩; refine ⟨_, rfl, ?_⟩) | (go_at_call 28; (with_reducible refine (madrigallaw01_filling.calls k a1 false _ A10.out).mono ?_); rintro e w19 ⟨rfl, hb⟩; have n0_ := Aside0.mk (Kd.R_below (by (with_reducible repeat (first | apply Kd.R_alloc | apply Kd.R_drewN | apply Kd.R_drew)); exact HO491.out) hb); have n1_ := Aside0.mk (below_step (by repeat (first | (with_reducible first | exact HB.out | apply below_alloc | apply pw_below_drewN | apply below_drew1) | exact HB.out)) hb); clear HO491; clear HB; have HO491 := n0_; have HB := n1_; clear n0_ n1_; (try clear hb); (try clear hb2); (try clear hk); (try clear hi)))
     go_meet
     case rel => exact ⟨_, (true), (by first | rfl | (simp; done) | (simp [*]; done)), H', ⟨by first | omega | exact Nat.le_refl _⟩, ⟨by repeat (first | (with_reducible first | exact HB.out | apply below_alloc | apply pw_below_drewN | apply below_drew1) | exact HB.out)⟩⟩
   ·replace c9 := Bool.eq_false_iff.mpr c9
    subst c9
    have H1 : (madrigallaw01_LexBlanks.j0 k a0 a1 a2 true) = some r := by rw [if_neg (show ¬ (false = true) by decide)] at H; exact H
    clear H
    have H := H1
    clear H1
    have H' := Aside0.mk H
    clear H
    go_wp2_with (first | ((with_reducible refine gate_dst (N := 21) rfl ?_); (try (refine gate_guard (by rfl) ?_; dsimp only)); refine Kd.R_lit Kd.string _ 9 ?hg (N := 21) ?hd (xs := ([a0, a1] : List ByteArray)) (inner := [.string a0, .string a1]) (ok := fun _ => True) (okp := fun _ => True) ?hr ?hp (fun _ hk => hk) trivial (Below.refl _ _) (Nat.le_refl _) (by simp) ?_; (case hd => rfl); (case hg => rfl); (case hr => first | (go_simp; done) | (go_simp; rfl)); (case hp => exact (Reps.one (show Kd.M Kd.string _ _ _ a0 [.string a0] from rfl) (Reps.one (show Kd.M Kd.string _ _ _ a1 [.string a1] from rfl) (Reps.none _ _)))); intro v490 w20 ho21 hb hg_ hnew_; clear hg_ hnew_; (first | rw [← Ny489.out] at ho21 | (simp only [Int.reduceToNat] at ho21; rw [← Ny489.out] at ho21)); have n0_ := Aside0.mk (Kd.R_lower ho21 (below_size (by repeat (first | (with_reducible first | exact HB.out | apply below_alloc | apply pw_below_drewN | apply below_drew1) | exact HB.out)))); have n1_ := Aside0.mk (below_step (by repeat (first | (with_reducible first | exact HB.out | apply below_alloc | apply pw_below_drewN | apply below_drew1) | exact HB.out)) hb); clear HB; have HO491 := n0_; have HB := n1_; clear n0_ n1_; clear hb ho21; obtain ⟨Ao22, co22, eo22⟩ := Kd.R_slice HO491.out; subst eo22) | ((with_reducible refine gate_callee (f := 12) rfl ?_); refine goesL_ (some 22) rfl rfl Tryz.func12 (by kernel_rfl) rfl #[.slice Ao22 y489.length co22] rfl (by (try simp only [List.map_toArray, List.map_cons, List.map_nil]); first | done | rfl | (simp only [List.length_drop, List.length_take]; rfl)) ?_; (with_reducible refine (madrigallaw01_short.calls k _ _ y489 false _ ?side1 ?side2 A8.out).mono ?_); (case side1 => repeat (first | exact (Kd.R_reads' HO491.out).2.2 | (with_reducible refine Kd.C_alloc ?_ _) | (with_reducible refine Kd.C_drewN ?_ _) | (with_reducible refine Kd.C_drew ?_))); (case side2 => exact (Kd.R_reads' HO491.out).2.1); rintro e w' ⟨rfl, ⟨nd, rfl⟩⟩; refine ⟨_, rfl, ?_⟩))
    go_meet
    case rel => exact ⟨_, (true), (by first | rfl | (simp; done) | (simp [*]; done)), H', ⟨by first | omega | exact Nat.le_refl _⟩, ⟨by repeat (first | (with_reducible first | exact HB.out | apply below_alloc | apply pw_below_drewN | apply below_drew1) | exact HB.out)⟩⟩
  case rest =>
   clear HC6
   try clear c1
   try clear p2
   try clear c5
   try clear c9
   try clear c11
   try clear c12
   obtain ⟨kq, x32_5, rfl, HA, HJ5, HB⟩ := hcut
   cases kq with
   | zero => exact absurd HA.out (by simp [madrigallaw01_LexBlanks.j0])
   | succ kj5 =>
    have H := HA.out
    clear HA
    simp only [madrigallaw01_LexBlanks.j0] at H
    by_cases c23 : x32_5 = true
    ·subst c23
     have H1 : (some true) = some r := by rw [if_pos rfl] at H; exact H
     clear H
     have H := H1
     clear H1
     obtain rfl := Option.some.inj H
     go_wp2
     go_ret
     exact ⟨by first | rfl | (simp [errW_none, errW_some] <;> rfl) | (simp [*, errW_none, errW_some] <;> rfl), by repeat (first | (with_reducible first | exact HB.out | apply below_alloc | apply pw_below_drewN | apply below_drew1) | exact HB.out)⟩
    ·as_aux_lemma =>
      replace c23 := Bool.eq_false_iff.mpr c23
      subst c23
      have H1 : ((lex_Tokens.f a0).bind fun bt494 => (if bt494.2.2 = 0 then (if (IntKind.u64.wrap (wrap64 ((bt494.1.length : Int) + 1))) = 0 then (none) else (if (wrap64 (Int.tmod (IntKind.u64.wrap (a2)) (IntKind.u64.wrap (wrap64 ((bt494.1.length : Int) + 1))))) < (bt494.1.length : Int) then (if 0 ≤ (wrap64 (Int.tmod (IntKind.u64.wrap (a2)) (IntKind.u64.wrap (wrap64 ((bt494.1.length : Int) + 1))))) then (madrigallaw01_LexBlanks.j1 kj5 a0 a1 bt494.1 (wrap64 (Int.tmod (IntKind.u64.wrap (a2)) (IntKind.u64.wrap (wrap64 ((bt494.1.length : Int) + 1))))) ((rd_T38 bt494.1 (wrap64 (Int.tmod (IntKind.u64.wrap (a2)) (IntKind.u64.wrap (wrap64 ((bt494.1.length : Int) + 1)))))).f3)) else (none)) else (madrigallaw01_LexBlanks.j1 kj5 a0 a1 bt494.1 (wrap64 (Int.tmod (IntKind.u64.wrap (a2)) (IntKind.u64.wrap (wrap64 ((bt494.1.length : Int) + 1))))) (a0.size : Int)))) else (some ((bt494.1.length : Int) == 0)))) = some r := by rw [if_neg (show ¬ (false = true) by decide)] at H; exact H
      clear H
      have H := H1
      clear H1
      replace H := Option.bind_eq_some_iff.mp H
      obtain ⟨⟨t494, t495, t496⟩, A240, H⟩ := H
      replace H : (if t496 = 0 then (if (IntKind.u64.wrap (wrap64 ((t494.length : Int) + 1))) = 0 then (none) else (if (wrap64 (Int.tmod (IntKind.u64.wrap (a2)) (IntKind.u64.wrap (wrap64 ((t494.length : Int) + 1))))) < (t494.length : Int) then (if 0 ≤ (wrap64 (Int.tmod (IntKind.u64.wrap (a2)) (IntKind.u64.wrap (wrap64 ((t494.length : Int) + 1))))) then (madrigallaw01_LexBlanks.j1 kj5 a0 a1 t494 (wrap64 (Int.tmod (IntKind.u64.wrap (a2)) (IntKind.u64.wrap (wrap64 ((t494.length : Int) + 1))))) ((rd_T38 t494 (wrap64 (Int.tmod (IntKind.u64.wrap (a2)) (IntKind.u64.wrap (wrap64 ((t494.length : Int) + 1)))))).f3)) else (none)) else (madrigallaw01_LexBlanks.j1 kj5 a0 a1 t494 (wrap64 (Int.tmod (IntKind.u64.wrap (a2)) (IntKind.u64.wrap (wrap64 ((t494.length : Int) + 1))))) (a0.size : Int)))) else (some ((t494.length : Int) == 0))) = some r := H
      have A24 := Aside0.mk A240
      clear A240
      by_cases c25 : t496 = 0
      ·rw [if_pos c25] at H
       have c25b0 : (t496 == 0) = true := beq_iff_eq.mpr c25
       have c25b1 : (t496 != 0) = false := bne_eq_false_iff_eq.mpr c25
       clear c25
       by_cases c26 : (IntKind.u64.wrap (wrap64 ((t494.length : Int) + 1))) = 0
       ·rw [if_pos c26] at H
        exact absurd H (by simp)
       ·rw [if_neg c26] at H
        have c26b0 : ((IntKind.u64.wrap (wrap64 ((t494.length : Int) + 1))) == 0) = false := beq_eq_false_iff_ne.mpr c26
        have c26b1 : ((IntKind.u64.wrap (wrap64 ((t494.length : Int) + 1))) != 0) = true := bne_iff_ne.mpr c26
        have HC27 := Aside0.mk H
        clear H
        go_upto_if 57 with (first | ((with_reducible refine gate_callee (f := 13) rfl ?_); refine goesL_ (some 35) rfl rfl Tryz.func13 (by kernel_rfl) rfl #[.string a0] rfl (by (try simp only [List.map_toArray, List.map_cons, List.map_nil]); first | done | rfl | (simp only [List.length_drop, List.length_take]; rfl)) ?_; (with_reducible refine (lex_Tokens.calls a0 t494 t495 t496 _ A24.out ?side1).mono ?_); (case side1 => exact GL.below HG.out (by repeat (first | (with_reducible first | exact HB.out | apply below_alloc | apply pw_below_drewN | apply below_drew1) | exact HB.out))); rintro e w28 ⟨v497, rfl, ho0, hb⟩; refine ⟨_, rfl, ?_⟩; have n0_ := Aside0.mk (Kd.R_lower ho0 (below_size (by repeat (first | (with_reducible first | exact HB.out | apply below_alloc | apply pw_below_drewN | apply below_drew1) | exact HB.out)))); have n1_ := Aside0.mk (below_step (by repeat (first | (with_reducible first | exact HB.out | apply below_alloc | apply pw_below_drewN | apply below_drew1) | exact HB.out)) hb); clear HB; have HO498 := n0_; have HB := n1_; clear n0_ n1_; (try clear hb); (try clear hb2); (try clear hk); (try clear hi); (try clear ho0); obtain ⟨Ao29, co29, eo29⟩ := Kd.R_slice HO498.out; subst eo29))
        (try simp only [Act.put, List.setIfInBounds_toArray, List.set_cons_zero, List.set_cons_succ])
        go_cut [11] (fun v11 wc => ∃ (kq : Nat) (x11_26 : Int), v11 = .int .i64 x11_26 ∧ Aside0 (madrigallaw01_LexBlanks.j1 kq a0 a1 t494 (wrap64 (Int.tmod (IntKind.u64.wrap (a2)) (IntKind.u64.wrap (wrap64 ((t494.length : Int) + 1))))) x11_26 = some r) ∧ Aside0 (kq ≤ kj5) ∧ Aside0 (Kd.R k38 38 wc w.heap.size (fun _ => True) (.slice Ao29 t494.length co29) t494) ∧ Aside0 (Below w.heap.size w wc))
        case first =>
         have H := HC27.out
         clear HC27
         by_cases c30 : (wrap64 (Int.tmod (IntKind.u64.wrap (a2)) (IntKind.u64.wrap (wrap64 ((t494.length : Int) + 1))))) < (t494.length : Int)
         ·rw [if_pos c30] at H
          have c30b0 : decide ((wrap64 (Int.tmod (IntKind.u64.wrap (a2)) (IntKind.u64.wrap (wrap64 ((t494.length : Int) + 1))))) < (t494.length : Int)) = true := decide_eq_true c30
          clear c30
          (first | rw [c30b0] | (simp only [i64_w, i32_w]; rw [c30b0]) | skip)
          obtain ⟨ji31, hji31⟩ : ∃ j_ : Int, (wrap64 (Int.tmod (IntKind.u64.wrap (a2)) (IntKind.u64.wrap (wrap64 ((t494.length : Int) + 1))))) = j_ := ⟨_, rfl⟩
          replace H : (if 0 ≤ (ji31) then (madrigallaw01_LexBlanks.j1 kj5 a0 a1 t494 ji31 ((rd_T38 t494 (ji31)).f3)) else (none)) = some r := by first | (rw [hji31] at H; exact H) | (simp only [hji31] at H ⊢; exact H)
          (try rw [hji31] at c30b0)
          have hji31w : (IntKind.i64.wrap (Int.tmod (IntKind.u64.wrap (a2)) (IntKind.u64.wrap (wrap64 ((t494.length : Int) + 1))))) = ji31 := (i64_w _).trans hji31
          by_cases c32 : 0 ≤ (ji31)
          ·rw [if_pos c32] at H
           have c32b0 : decide (0 ≤ (ji31)) = true := decide_eq_true c32
           clear c32
           have H' := Aside0.mk H
           clear H
           have p499 : 0 ≤ ((ji31) : Int) := of_decide_eq_true (by first | (with_reducible assumption) | assumption)
           have q499 : (ji31) < (t494.length : Int) := of_decide_eq_true (by first | (with_reducible assumption) | assumption)
           obtain ⟨ad499, e499, hx499_0, hx499_1, hx499_2, hx499_3, hx499_4⟩ := at_T38 (Kd.R_reads' HO498.out).2.2 (ji31) p499 q499
           cases e499
           replace p499 := eq_true p499
           replace q499 := eq_true q499
           go_wp2
           go_meet
           case rel => exact ⟨_, ((rd_T38 t494 (ji31)).f3), (by first | rfl | (simp; done) | (simp only [← hji31] <;> (first | rfl | simp)) | (simp [*]; done)), (by first | exact H' | (rw [hji31]; exact H')), ⟨by have := HJ5.out; first | omega | exact Nat.le_refl _⟩, ⟨by (with_reducible repeat (first | apply Kd.R_alloc | apply Kd.R_drewN | apply Kd.R_drew)); exact HO498.out⟩, ⟨by repeat (first | (with_reducible first | exact HB.out | apply below_alloc | apply pw_below_drewN | apply below_drew1) | exact HB.out)⟩⟩
          ·rw [if_neg c32] at H
           exact absurd H (by simp)
         ·rw [if_neg c30] at H
          have c30b0 : decide ((wrap64 (Int.tmod (IntKind.u64.wrap (a2)) (IntKind.u64.wrap (wrap64 ((t494.length : Int) + 1))))) < (t494.length : Int)) = false := decide_eq_false c30
          clear c30
          (first | rw [c30b0] | (simp only [i64_w, i32_w]; rw [c30b0]) | skip)
          have H' := Aside0.mk H
          clear H
          go_wp2
          go_meet
          case rel => exact ⟨_, ((a0.size : Int)), (by first | rfl | (simp; done) | (simp [*]; done)), H', ⟨by have := HJ5.out; first | omega | exact Nat.le_refl _⟩, ⟨by (with_reducible repeat (first | apply Kd.R_alloc | apply Kd.R_drewN | apply Kd.R_drew)); exact HO498.out⟩, ⟨by repeat (first | (with_reducible first | exact HB.out | apply below_alloc | apply pw_below_drewN | apply below_drew1) | exact HB.out)⟩⟩
        case rest =>
         clear HC27
         try clear c1
         try clear c2
         try clear p2
         try clear c3
         try clear p4
         try clear q4
         try clear hx4
         try clear c5
         try clear p6
         try clear c9
         try clear c11
         try clear c12
         try clear c13
         try clear c23
         try clear c25
         try clear c25b0
         try clear c25b1
         try clear c26
         try clear c26b0
         try clear c26b1
         try clear c30
         try clear c30b0
         try clear c32
         try clear c32b0
         try clear hx499_0
         try clear hx499_1
         try clear hx499_2
         try clear hx499_3
         try clear hx499_4
         try clear p2
         try clear p499
         try clear q499
         obtain ⟨kq, x11_26, rfl, HA, HJ26, HO_7, HB⟩ := hcut
         cases kq with
         | zero => exact absurd HA.out (by simp [madrigallaw01_LexBlanks.j1])
         | succ kj26 =>
          have H := HA.out
          clear HA
          simp only [madrigallaw01_LexBlanks.j1] at H
          have HC33 := Aside0.mk H
          clear H
          go_upto_region 12 with (fail)
          go_cut [70] (fun v70 wc => ∃ (kq : Nat) (x70_32 : Bool), v70 = .bool x70_32 ∧ Aside0 (madrigallaw01_LexBlanks.j2 kq a0 a1 t494 (wrap64 (Int.tmod (IntKind.u64.wrap (a2)) (IntKind.u64.wrap (wrap64 ((t494.length : Int) + 1))))) x11_26 x70_32 = some r) ∧ Aside0 (kq ≤ kj26) ∧ Aside0 (Kd.R k38 38 wc w.heap.size (fun _ => True) (.slice Ao29 t494.length co29) t494) ∧ Aside0 (Below w.heap.size w wc))
          case first =>
           have H := HC33.out
           clear HC33
           by_cases c34 : x11_26 < 0
           ·rw [if_pos c34] at H
            have c34b0 : decide (x11_26 < 0) = true := decide_eq_true c34
            clear c34
            (first | rw [c34b0] | (simp only [i64_w, i32_w]; rw [c34b0]) | skip)
            have H' := Aside0.mk H
            clear H
            go_wp2
            go_meet
            case rel => exact ⟨_, (true), (by first | rfl | (simp; done) | (simp [*]; done)), H', ⟨by have := HJ5.out; have := HJ26.out; first | omega | exact Nat.le_refl _⟩, ⟨by (with_reducible repeat (first | apply Kd.R_alloc | apply Kd.R_drewN | apply Kd.R_drew)); exact HO_7.out⟩, ⟨by repeat (first | (with_reducible first | exact HB.out | apply below_alloc | apply pw_below_drewN | apply below_drew1) | exact HB.out)⟩⟩
           ·rw [if_neg c34] at H
            have c34b0 : decide (x11_26 < 0) = false := decide_eq_false c34
            clear c34
            (first | rw [c34b0] | (simp only [i64_w, i32_w]; rw [c34b0]) | skip)
            have H' := Aside0.mk H
            clear H
            go_wp2
            go_meet
            case rel => exact ⟨_, (decide (x11_26 > (a0.size : Int))), (by first | rfl | (simp; done) | (simp [*]; done)), H', ⟨by have := HJ5.out; have := HJ26.out; first | omega | exact Nat.le_refl _⟩, ⟨by (with_reducible repeat (first | apply Kd.R_alloc | apply Kd.R_drewN | apply Kd.R_drew)); exact HO_7.out⟩, ⟨by repeat (first | (with_reducible first | exact HB.out | apply below_alloc | apply pw_below_drewN | apply below_drew1) | exact HB.out)⟩⟩
          case rest =>
           clear HC33
           try clear c1
           try clear c2
           try clear p2
           try clear c3
           try clear p4
           try clear q4
           try clear hx4
           try clear c5
           try clear p6
           try clear c9
           try clear c11
           try clear c12
           try clear c13
           try clear c23
           try clear c25
           try clear c25b0
           try clear c25b1
           try clear c26
           try clear c26b0
           try clear c26b1
           try clear c30
           try clear c30b0
           try clear c32
           try clear c32b0
           try clear c34
           try clear c34b0
           try clear hx499_0
           try clear hx499_1
           try clear hx499_2
           try clear hx499_3
           try clear hx499_4
           try clear p2
           try clear p4
           try clear p499
           try clear p6
           try clear q4
           try clear q499
           obtain ⟨kq, x70_32, rfl, HA, HJ32, HO_7, HB⟩ := hcut
           cases kq with
           | zero => exact absurd HA.out (by simp [madrigallaw01_LexBlanks.j2])
           | succ kj32 =>
            have H := HA.out
            clear HA
            simp only [madrigallaw01_LexBlanks.j2] at H
            by_cases c35 : x70_32 = true
            ·subst c35
             have H1 : (some false) = some r := by rw [if_pos rfl] at H; exact H
             clear H
             have H := H1
             clear H1
             exact absurd H (by rw [HR_.out]; simp)
            ·as_aux_lemma =>
              replace c35 := Bool.eq_false_iff.mpr c35
              subst c35
              have H1 : (if 0 ≤ x11_26 then (if x11_26 ≤ (a0.size : Int) then (if (a0.extract 0 (x11_26 : Int).toNat).size + 1 ≤ 9223372036854775807 then (if ((a0.extract 0 (x11_26 : Int).toNat) ++ (⟨#[32]⟩ : ByteArray)).size + a1.size ≤ 9223372036854775807 then (if (((a0.extract 0 (x11_26 : Int).toNat) ++ (⟨#[32]⟩ : ByteArray)) ++ a1).size + 1 ≤ 9223372036854775807 then (if ((((a0.extract 0 (x11_26 : Int).toNat) ++ (⟨#[32]⟩ : ByteArray)) ++ a1) ++ (⟨#[32]⟩ : ByteArray)).size + (a0.extract (x11_26 : Int).toNat a0.size).size ≤ 9223372036854775807 then ((lex_Tokens.f (((((a0.extract 0 (x11_26 : Int).toNat) ++ (⟨#[32]⟩ : ByteArray)) ++ a1) ++ (⟨#[32]⟩ : ByteArray)) ++ (a0.extract (x11_26 : Int).toNat a0.size))).bind fun bt500 => (if bt500.2.2 = 0 then (madrigallaw01_LexBlanks.j3 kj32 a0 a1 t494 (wrap64 (Int.tmod (IntKind.u64.wrap (a2)) (IntKind.u64.wrap (wrap64 ((t494.length : Int) + 1))))) bt500.1 ((bt500.1.length : Int) != (t494.length : Int))) else (madrigallaw01_LexBlanks.j3 kj32 a0 a1 t494 (wrap64 (Int.tmod (IntKind.u64.wrap (a2)) (IntKind.u64.wrap (wrap64 ((t494.length : Int) + 1))))) bt500.1 true))) else (none)) else (none)) else (none)) else (none)) else (none)) else (none)) = some r := by rw [if_neg (show ¬ (false = true) by decide)] at H; exact H
              clear H
              have H := H1
              clear H1
              by_cases c36 : 0 ≤ x11_26
              ·rw [if_pos c36] at H
               have c36b0 := eq_true c36
               have c36b1 : decide (0 ≤ x11_26) = true := decide_eq_true c36
               clear c36
               by_cases c37 : x11_26 ≤ (a0.size : Int)
               ·rw [if_pos c37] at H
                have c37b0 := eq_true c37
                have c37b1 : decide (x11_26 ≤ (a0.size : Int)) = true := decide_eq_true c37
                clear c37
                by_cases c38 : (a0.extract 0 (x11_26 : Int).toNat).size + 1 ≤ 9223372036854775807
                ·rw [if_pos c38] at H
                 have c38b0 := eq_true c38
                 have c38b1 : decide ((a0.extract 0 (x11_26 : Int).toNat).size + 1 ≤ 9223372036854775807) = true := decide_eq_true c38
                 try have c38b2 : (9223372036854775807 < (a0.extract 0 (x11_26 : Int).toNat).size + 1) = False := eq_false (Nat.not_lt.2 c38)
                 try have c38b4 : Aside0 ((a0.extract 0 (x11_26 : Int).toNat).size + 1 ≤ 9223372036854775807) := ⟨c38⟩
                 by_cases c39 : ((a0.extract 0 (x11_26 : Int).toNat) ++ (⟨#[32]⟩ : ByteArray)).size + a1.size ≤ 9223372036854775807
                 ·rw [if_pos c39] at H
                  have c39b0 := eq_true c39
                  have c39b1 : decide (((a0.extract 0 (x11_26 : Int).toNat) ++ (⟨#[32]⟩ : ByteArray)).size + a1.size ≤ 9223372036854775807) = true := decide_eq_true c39
                  try have c39b2 : (9223372036854775807 < ((a0.extract 0 (x11_26 : Int).toNat) ++ (⟨#[32]⟩ : ByteArray)).size + a1.size) = False := eq_false (Nat.not_lt.2 c39)
                  try have c39b4 : Aside0 (((a0.extract 0 (x11_26 : Int).toNat) ++ (⟨#[32]⟩ : ByteArray)).size + a1.size ≤ 9223372036854775807) := ⟨c39⟩
                  by_cases c40 : (((a0.extract 0 (x11_26 : Int).toNat) ++ (⟨#[32]⟩ : ByteArray)) ++ a1).size + 1 ≤ 9223372036854775807
                  ·rw [if_pos c40] at H
                   have c40b0 := eq_true c40
                   have c40b1 : decide ((((a0.extract 0 (x11_26 : Int).toNat) ++ (⟨#[32]⟩ : ByteArray)) ++ a1).size + 1 ≤ 9223372036854775807) = true := decide_eq_true c40
                   try have c40b2 : (9223372036854775807 < (((a0.extract 0 (x11_26 : Int).toNat) ++ (⟨#[32]⟩ : ByteArray)) ++ a1).size + 1) = False := eq_false (Nat.not_lt.2 c40)
                   try have c40b4 : Aside0 ((((a0.extract 0 (x11_26 : Int).toNat) ++ (⟨#[32]⟩ : ByteArray)) ++ a1).size + 1 ≤ 9223372036854775807) := ⟨c40⟩
                   have c41b0 := eq_true (of_decide_eq_true (by first | (with_reducible assumption) | assumption) : 0 ≤ x11_26)
                   have c42b0 := eq_true (of_decide_eq_true (by first | (with_reducible assumption) | assumption) : x11_26 ≤ (a0.size : Int))
                   by_cases c43 : ((((a0.extract 0 (x11_26 : Int).toNat) ++ (⟨#[32]⟩ : ByteArray)) ++ a1) ++ (⟨#[32]⟩ : ByteArray)).size + (a0.extract (x11_26 : Int).toNat a0.size).size ≤ 9223372036854775807
                   ·rw [if_pos c43] at H
                    have c43b0 := eq_true c43
                    have c43b1 : decide (((((a0.extract 0 (x11_26 : Int).toNat) ++ (⟨#[32]⟩ : ByteArray)) ++ a1) ++ (⟨#[32]⟩ : ByteArray)).size + (a0.extract (x11_26 : Int).toNat a0.size).size ≤ 9223372036854775807) = true := decide_eq_true c43
                    try have c43b2 : (9223372036854775807 < ((((a0.extract 0 (x11_26 : Int).toNat) ++ (⟨#[32]⟩ : ByteArray)) ++ a1) ++ (⟨#[32]⟩ : ByteArray)).size + (a0.extract (x11_26 : Int).toNat a0.size).size) = False := eq_false (Nat.not_lt.2 c43)
                    try have c43b4 : Aside0 (((((a0.extract 0 (x11_26 : Int).toNat) ++ (⟨#[32]⟩ : ByteArray)) ++ a1) ++ (⟨#[32]⟩ : ByteArray)).size + (a0.extract (x11_26 : Int).toNat a0.size).size ≤ 9223372036854775807) := ⟨c43⟩
                    replace H := Option.bind_eq_some_iff.mp H
                    obtain ⟨⟨t500, t501, t502⟩, A440, H⟩ := H
                    replace H : (if t502 = 0 then (madrigallaw01_LexBlanks.j3 kj32 a0 a1 t494 (wrap64 (Int.tmod (IntKind.u64.wrap (a2)) (IntKind.u64.wrap (wrap64 ((t494.length : Int) + 1))))) t500 ((t500.length : Int) != (t494.length : Int))) else (madrigallaw01_LexBlanks.j3 kj32 a0 a1 t494 (wrap64 (Int.tmod (IntKind.u64.wrap (a2)) (IntKind.u64.wrap (wrap64 ((t494.length : Int) + 1))))) t500 true)) = some r := H
                    have A44 := Aside0.mk A440
                    clear A440
                    have HC45 := Aside0.mk H
                    clear H
                    have zx_ : Aside0 ((a0.extract 0 (x11_26 : Int).toNat).size = x11_26.toNat) := ⟨by rw [ByteArray.size_extract]; have := of_decide_eq_true c37b1; omega⟩
                    have zb_ : Aside0 ((⟨#[32]⟩ : ByteArray).size = 1) := ⟨rfl⟩
                    have zy_ : Aside0 ((a0.extract (x11_26 : Int).toNat a0.size).size = a0.size - x11_26.toNat) := ⟨by rw [ByteArray.size_extract, Nat.min_self]⟩
                    have q1_ : (9223372036854775807 < x11_26.toNat + 1) = False := eq_false (by have h := c38b4.out; rw [zx_.out] at h; omega)
                    have q2_ : (9223372036854775807 < x11_26.toNat + 1 + a1.size) = False := eq_false (by have h := c39b4.out; rw [ByteArray.size_append, zx_.out, zb_.out] at h; omega)
                    have q3_ : (9223372036854775807 < x11_26.toNat + 1 + a1.size + 1) = False := eq_false (by have h := c40b4.out; rw [ByteArray.size_append, ByteArray.size_append, zx_.out, zb_.out] at h; omega)
                    have q4_ : (9223372036854775807 < x11_26.toNat + 1 + a1.size + 1 + (a0.size - x11_26.toNat)) = False := eq_false (by have h := c43b4.out; rw [ByteArray.size_append, ByteArray.size_append, ByteArray.size_append, zx_.out, zb_.out, zy_.out] at h; omega)
                    try go_wp2
                    replace HO_7 := Aside0.mk (Kd.R_drew HO_7.out)
                    replace HB := Aside0.mk (below_drew1 HB.out)
                    refine start_ (n := 19) (S := fun w' => True) (ds := []) #[X,X,X,X,X,X,X,X,X,X,X,X,X,X,X,X,X,X,X] (by kernel_rfl) rfl rfl trivial (fun hHeld => ?_); refine with_tabW madrigallaw01_LexBlanks.tab14 madrigallaw01_LexBlanks.bits14 (fun HT_ HW_ => ?_)
                    generalize wc.drew = w46 at HO_7 HB hHeld ⊢
                    refine pure_ (i := 0) (N := some 72) (v := ?_) (a' := ?_) #[Y,X,X,X,X,X,X,X,X,X,X,X,X,X,X,X,X,X,X] rfl rfl (any_of HT_.out (by kernel_rfl)) (fun _ _ _ h => h) (Or.inl ⟨by rfl, ?_⟩) ?_ ?_
                    rotate_left
                    ·intro w'
                     go_simp
                     with_reducible rfl
                    rotate_left
                    ·simp only [qa_]
                     rfl
                    refine pure_ (i := 1) (N := some 73) (v := ?_) (a' := ?_) #[Y,Y,X,X,X,X,X,X,X,X,X,X,X,X,X,X,X,X,X] rfl rfl (any_of HT_.out (by kernel_rfl)) (fun _ _ _ h => h) (Or.inl ⟨by rfl, ?_⟩) ?_ ?_
                    rotate_left
                    ·intro w'
                     go_simp
                     with_reducible rfl
                    rotate_left
                    ·simp only [qa_]
                     rfl
                    refine pure_ (i := 2) (N := some 74) (v := ?_) (a' := ?_) #[Y,Y,Y,X,X,X,X,X,X,X,X,X,X,X,X,X,X,X,X] rfl rfl (any_of HT_.out (by kernel_rfl)) (fun _ _ _ h => h) (Or.inl ⟨by rfl, ?_⟩) ?_ ?_
                    rotate_left
                    ·intro w'
                     go_simp
                     with_reducible rfl
                    rotate_left
                    ·simp only [qa_]
                     rfl
                    refine pure_ (i := 3) (N := some 75) (v := ?_) (a' := ?_) #[Y,Y,Y,Y,X,X,X,X,X,X,X,X,X,X,X,X,X,X,X] rfl rfl (any_of HT_.out (by kernel_rfl)) (fun _ _ _ h => h) (Or.inl ⟨by rfl, ?_⟩) ?_ ?_
                    rotate_left
                    ·intro w'
                     go_simp
                     with_reducible rfl
                    rotate_left
                    ·simp only [qa_]
                     rfl
                    refine pure_ (i := 4) (N := some 76) (v := ?_) (a' := ?_) #[Y,Y,Y,Y,Y,X,X,X,X,X,X,X,X,X,X,X,X,X,X] rfl rfl (any_of HT_.out (by kernel_rfl)) (fun _ _ _ h => h) (Or.inl ⟨by rfl, ?_⟩) ?_ ?_
                    rotate_left
                    ·intro w'
                     go_simp
                     with_reducible rfl
                    rotate_left
                    ·simp only [qa_]
                     rfl
                    refine pure_ (i := 5) (N := some 77) (v := ?_) (a' := ?_) #[Y,Y,Y,Y,Y,Y,X,X,X,X,X,X,X,X,X,X,X,X,X] rfl rfl (any_of HT_.out (by kernel_rfl)) (fun _ _ _ h => h) (Or.inl ⟨by rfl, ?_⟩) ?_ ?_
                    rotate_left
                    ·intro w'
                     go_simp
                     with_reducible rfl
                    rotate_left
                    ·simp only [qa_]
                     rfl
                    refine pure_ (i := 6) (N := some 78) (v := ?_) (a' := ?_) #[Y,Y,Y,Y,Y,Y,Y,X,X,X,X,X,X,X,X,X,X,X,X] rfl rfl (any_of HT_.out (by kernel_rfl)) (fun _ _ _ h => h) (Or.inl ⟨by rfl, ?_⟩) ?_ ?_
                    rotate_left
                    ·intro w'
                     go_simp
                     with_reducible rfl
                    rotate_left
                    ·simp only [qa_]
                     rfl
                    refine pure_ (i := 7) (N := some 79) (v := ?_) (a' := ?_) #[Y,Y,Y,Y,Y,Y,Y,Y,X,X,X,X,X,X,X,X,X,X,X] rfl rfl (any_of HT_.out (by kernel_rfl)) (fun _ _ _ h => h) (Or.inl ⟨by rfl, ?_⟩) ?_ ?_
                    rotate_left
                    ·intro w'
                     go_simp
                     with_reducible rfl
                    rotate_left
                    ·simp only [qa_]
                     rfl
                    refine pure_ (i := 8) (N := some 80) (v := ?_) (a' := ?_) #[Y,Y,Y,Y,Y,Y,Y,Y,Y,X,X,X,X,X,X,X,X,X,X] rfl rfl (any_of HT_.out (by kernel_rfl)) (fun _ _ _ h => h) (Or.inl ⟨by rfl, ?_⟩) ?_ ?_
                    rotate_left
                    ·intro w'
                     go_simp
                     with_reducible rfl
                    rotate_left
                    ·simp only [qa_]
                     rfl
                    refine pure_ (i := 9) (N := some 81) (v := ?_) (a' := ?_) #[Y,Y,Y,Y,Y,Y,Y,Y,Y,Y,X,X,X,X,X,X,X,X,X] rfl rfl (any_of HT_.out (by kernel_rfl)) (fun _ _ _ h => h) (Or.inl ⟨by rfl, ?_⟩) ?_ ?_
                    rotate_left
                    ·intro w'
                     go_simp
                     with_reducible rfl
                    rotate_left
                    ·simp only [qa_]
                     rfl
                    refine pure_ (i := 10) (N := some 82) (v := ?_) (a' := ?_) #[Y,Y,Y,Y,Y,Y,Y,Y,Y,Y,Y,X,X,X,X,X,X,X,X] rfl rfl (any_of HT_.out (by kernel_rfl)) (fun _ _ _ h => h) (Or.inl ⟨by rfl, ?_⟩) ?_ ?_
                    rotate_left
                    ·intro w'
                     go_simp
                     with_reducible rfl
                    rotate_left
                    ·simp only [qa_]
                     rfl
                    refine one_ (i := 11) (N := some 83) #[Y,Y,Y,Y,Y,Y,Y,Y,Y,Y,Y,Y,X,X,X,X,X,X,X] rfl rfl (one_of HT_.out (by kernel_rfl)) (by decide) (fun K hK => ?_)
                    refine goes_ Tryz.func13 (by kernel_rfl) rfl #[.string (((((a0.extract 0 (x11_26 : Int).toNat) ++ (⟨#[32]⟩ : ByteArray)) ++ a1) ++ (⟨#[32]⟩ : ByteArray)) ++ (a0.extract (x11_26 : Int).toNat a0.size))] (by rfl) rfl rfl (by (try simp only [List.map_toArray, List.map_cons, List.map_nil]); first | done | rfl | (simp only [List.length_drop, List.length_take]; rfl)) ?_
                    with_reducible refine (lex_Tokens.calls (((((a0.extract 0 (x11_26 : Int).toNat) ++ (⟨#[32]⟩ : ByteArray)) ++ a1) ++ (⟨#[32]⟩ : ByteArray)) ++ (a0.extract (x11_26 : Int).toNat a0.size)) t500 t501 t502 _ A44.out ?side1).mono ?_
                    (case side1 => exact GL.below HG.out (by repeat (first | (with_reducible first | exact HB.out | apply below_alloc | apply pw_below_drewN | apply below_drew1) | exact HB.out)))
                    rintro e w47 ⟨v503, rfl, ho0, hb⟩
                    refine ⟨_, rfl, ?_⟩
                    have n0_ := Aside0.mk (Kd.R_elder' (by (with_reducible repeat (first | apply Kd.R_alloc | apply Kd.R_drewN | apply Kd.R_drew)); exact HO_7.out) (Kd.R_base ho0) hb)
                    have n1_ := Aside0.mk (Kd.R_lower (Kd.R_new' ho0 (Kd.R_lt (by (with_reducible repeat (first | apply Kd.R_alloc | apply Kd.R_drewN | apply Kd.R_drew)); exact HO_7.out))) (below_size (by repeat (first | (with_reducible first | exact HB.out | apply below_alloc | apply pw_below_drewN | apply below_drew1) | exact HB.out))))
                    have n2_ := Aside0.mk (below_step (by repeat (first | (with_reducible first | exact HB.out | apply below_alloc | apply pw_below_drewN | apply below_drew1) | exact HB.out)) hb)
                    clear HO_7
                    clear HB
                    have HO_7 := n0_
                    have HO504 := n1_
                    have HB := n2_
                    clear n0_ n1_ n2_
                    (try clear hb); (try clear hb2); (try clear hk); (try clear hi)
                    (try clear ho0)
                    refine hK.out _ _ trivial (fun hHeld => ?_)
                    clear hK K
                    refine norm_ (a' := ?_) ?_ ?_
                    rotate_left
                    ·show Act.put _ (some 83) _ = _
                     simp only [qa_]
                     rfl
                    refine pure_ (i := 12) (N := some 71) (v := ?_) (a' := ?_) #[Y,Y,Y,Y,Y,Y,Y,Y,Y,Y,Y,Y,Y,X,X,X,X,X,X] rfl rfl (any_of HT_.out (by kernel_rfl)) (fun _ _ _ h => h) (Or.inl ⟨by rfl, ?_⟩) ?_ ?_
                    rotate_left
                    ·intro w'
                     go_simp
                     with_reducible rfl
                    rotate_left
                    ·simp only [qa_]
                     rfl
                    refine pure_ (i := 13) (N := some 84) (v := ?_) (a' := ?_) #[Y,Y,Y,Y,Y,Y,Y,Y,Y,Y,Y,Y,Y,Y,X,X,X,X,X] rfl rfl (any_of HT_.out (by kernel_rfl)) (fun _ _ _ h => h) (Or.inl ⟨by rfl, ?_⟩) ?_ ?_
                    rotate_left
                    ·intro w'
                     go_simp
                     with_reducible rfl
                    rotate_left
                    ·simp only [qa_]
                     rfl
                    refine pure_ (i := 14) (N := some 85) (v := ?_) (a' := ?_) #[Y,Y,Y,Y,Y,Y,Y,Y,Y,Y,Y,Y,Y,Y,Y,X,X,X,X] rfl rfl (any_of HT_.out (by kernel_rfl)) (fun _ _ _ h => h) (Or.inl ⟨by rfl, ?_⟩) ?_ ?_
                    rotate_left
                    ·intro w'
                     go_simp
                     with_reducible rfl
                    rotate_left
                    ·simp only [qa_]
                     rfl
                    refine pure_ (i := 15) (N := some 86) (v := ?_) (a' := ?_) #[Y,Y,Y,Y,Y,Y,Y,Y,Y,Y,Y,Y,Y,Y,Y,Y,X,X,X] rfl rfl (any_of HT_.out (by kernel_rfl)) (fun _ _ _ h => h) (Or.inl ⟨by rfl, ?_⟩) ?_ ?_
                    rotate_left
                    ·intro w'
                     go_simp
                     with_reducible rfl
                    rotate_left
                    ·simp only [qa_]
                     rfl
                    refine pure_ (i := 16) (N := some 12) (v := ?_) (a' := ?_) #[Y,Y,Y,Y,Y,Y,Y,Y,Y,Y,Y,Y,Y,Y,Y,Y,Y,X,X] rfl rfl (any_of HT_.out (by kernel_rfl)) (fun _ _ _ h => h) (Or.inl ⟨by rfl, ?_⟩) ?_ ?_
                    rotate_left
                    ·intro w'
                     go_simp
                     with_reducible rfl
                    rotate_left
                    ·simp only [qa_]
                     rfl
                    refine pure_ (i := 17) (N := some 13) (v := ?_) (a' := ?_) #[Y,Y,Y,Y,Y,Y,Y,Y,Y,Y,Y,Y,Y,Y,Y,Y,Y,Y,X] rfl rfl (any_of HT_.out (by kernel_rfl)) (fun _ _ _ h => h) (Or.inl ⟨by rfl, ?_⟩) ?_ ?_
                    rotate_left
                    ·intro w'
                     go_simp
                     with_reducible rfl
                    rotate_left
                    ·simp only [qa_]
                     rfl
                    refine pure_ (i := 18) (N := some 9) (v := ?_) (a' := ?_) #[Y,Y,Y,Y,Y,Y,Y,Y,Y,Y,Y,Y,Y,Y,Y,Y,Y,Y,Y] rfl rfl (any_of HT_.out (by kernel_rfl)) (fun _ _ _ h => h) (Or.inl ⟨by rfl, ?_⟩) ?_ ?_
                    rotate_left
                    ·intro w'
                     go_simp
                     with_reducible rfl
                    rotate_left
                    ·simp only [qa_]
                     rfl
                    refine done_ (done_of HT_.out (by kernel_rfl)) ?_
                    go_upto_region 15 with (fail)
                    go_cut [95] (fun v95 wc => ∃ (kq : Nat) (x95_44 : Bool), v95 = .bool x95_44 ∧ Aside0 (madrigallaw01_LexBlanks.j3 kq a0 a1 t494 (wrap64 (Int.tmod (IntKind.u64.wrap (a2)) (IntKind.u64.wrap (wrap64 ((t494.length : Int) + 1))))) t500 x95_44 = some r) ∧ Aside0 (kq ≤ kj32) ∧ Aside0 (Kd.R k38 38 wc w.heap.size (fun k_ => some k_ ≠ (v503 : Value).ownBlock) (.slice Ao29 t494.length co29) t494) ∧ Aside0 (Kd.R k38 38 wc w.heap.size (fun k_ => some k_ ≠ ((.slice Ao29 t494.length co29) : Value).ownBlock) v503 t500) ∧ Aside0 (Below w.heap.size w wc))
                    case first =>
                     have H := HC45.out
                     clear HC45
                     by_cases c48 : t502 = 0
                     ·rw [if_pos c48] at H
                      have c48b0 : (t502 == 0) = true := beq_iff_eq.mpr c48
                      have c48b1 : (t502 != 0) = false := bne_eq_false_iff_eq.mpr c48
                      clear c48
                      (first | rw [c48b0] | (simp only [i64_w, i32_w]; rw [c48b0]) | skip)
                      have H' := Aside0.mk H
                      clear H
                      obtain ⟨Ao49, co49, eo49⟩ := Kd.R_slice HO504.out
                      subst eo49
                      go_wp2
                      go_meet
                      case rel => exact ⟨_, (((t500.length : Int) != (t494.length : Int))), (by first | rfl | (simp; done) | (simp [*]; done)), H', ⟨by have := HJ5.out; have := HJ26.out; have := HJ32.out; first | omega | exact Nat.le_refl _⟩, ⟨by (with_reducible repeat (first | apply Kd.R_alloc | apply Kd.R_drewN | apply Kd.R_drew)); exact Kd.R_mono HO_7.out (fun _ hk => hk.2)⟩, ⟨by (with_reducible repeat (first | apply Kd.R_alloc | apply Kd.R_drewN | apply Kd.R_drew)); exact Kd.R_mono HO504.out (fun _ hk => hk.2)⟩, ⟨by repeat (first | (with_reducible first | exact HB.out | apply below_alloc | apply pw_below_drewN | apply below_drew1) | exact HB.out)⟩⟩
                     ·rw [if_neg c48] at H
                      have c48b0 : (t502 == 0) = false := beq_eq_false_iff_ne.mpr c48
                      have c48b1 : (t502 != 0) = true := bne_iff_ne.mpr c48
                      (first | rw [c48b0] | (simp only [i64_w, i32_w]; rw [c48b0]) | skip)
                      have H' := Aside0.mk H
                      clear H
                      go_wp2
                      go_meet
                      case rel => exact ⟨_, (true), (by first | rfl | (simp; done) | (simp [*]; done)), H', ⟨by have := HJ5.out; have := HJ26.out; have := HJ32.out; first | omega | exact Nat.le_refl _⟩, ⟨by (with_reducible repeat (first | apply Kd.R_alloc | apply Kd.R_drewN | apply Kd.R_drew)); exact Kd.R_mono HO_7.out (fun _ hk => hk.2)⟩, ⟨by (with_reducible repeat (first | apply Kd.R_alloc | apply Kd.R_drewN | apply Kd.R_drew)); exact Kd.R_mono HO504.out (fun _ hk => hk.2)⟩, ⟨by repeat (first | (with_reducible first | exact HB.out | apply below_alloc | apply pw_below_drewN | apply below_drew1) | exact HB.out)⟩⟩
                    case rest =>
                     clear HC45
                     try clear c1
                     try clear c2
                     try clear p2
                     try clear c3
                     try clear c4
                     try clear p4
                     try clear q4
                     try clear hx4
                     try clear c5
                     try clear p6
                     try clear c9
                     try clear c11
                     try clear c12
                     try clear c13
                     try clear c23
                     try clear c25
                     try clear c25b0
                     try clear c25b1
                     try clear c26
                     try clear c26b0
                     try clear c26b1
                     try clear c30
                     try clear c30b0
                     try clear c32
                     try clear c32b0
                     try clear c34
                     try clear c34b0
                     try clear c35
                     try clear c36
                     try clear c36b0
                     try clear c36b1
                     try clear c37
                     try clear c37b0
                     try clear c37b1
                     try clear c38
                     try clear c38b0
                     try clear c38b1
                     try clear c38b2
                     try clear c39
                     try clear c39b0
                     try clear c39b1
                     try clear c39b2
                     try clear c40
                     try clear c40b0
                     try clear c40b1
                     try clear c40b2
                     try clear c41
                     try clear c41b0
                     try clear c42
                     try clear c42b0
                     try clear c43
                     try clear c43b0
                     try clear c43b1
                     try clear c43b2
                     try clear c48
                     try clear c48b0
                     try clear c48b1
                     try clear p49
                     try clear q49
                     try clear hx49
                     try clear hx499_0
                     try clear hx499_1
                     try clear hx499_2
                     try clear hx499_3
                     try clear hx499_4
                     try clear p2
                     try clear p4
                     try clear p499
                     try clear p6
                     try clear q4
                     try clear q499
                     obtain ⟨kq, x95_44, rfl, HA, HJ44, HO_7, HO_12, HB⟩ := hcut
                     cases kq with
                     | zero => exact absurd HA.out (by simp [madrigallaw01_LexBlanks.j3])
                     | succ kj44 =>
                      have H := HA.out
                      clear HA
                      simp only [madrigallaw01_LexBlanks.j3] at H
                      by_cases c50 : x95_44 = true
                      ·subst c50
                       have H1 : (some (decide ((wrap64 ((wrap64 ((a0.size : Int) + (a1.size : Int))) + 2)) > 100000))) = some r := by rw [if_pos rfl] at H; exact H
                       clear H
                       have H := H1
                       clear H1
                       obtain rfl := Option.some.inj H
                       go_wp2
                       go_ret
                       exact ⟨by first | rfl | (simp [errW_none, errW_some] <;> rfl) | (simp [*, errW_none, errW_some] <;> rfl), by repeat (first | (with_reducible first | exact HB.out | apply below_alloc | apply pw_below_drewN | apply below_drew1) | exact HB.out)⟩
                      ·as_aux_lemma =>
                        replace c50 := Bool.eq_false_iff.mpr c50
                        subst c50
                        have H1 : (madrigallaw01_LexBlanks.l0 kj44 a1 t494 (wrap64 (Int.tmod (IntKind.u64.wrap (a2)) (IntKind.u64.wrap (wrap64 ((t494.length : Int) + 1))))) t500 (t500.length : Int) 0) = some r := by rw [if_neg (show ¬ (false = true) by decide)] at H; exact H
                        clear H
                        have H := H1
                        clear H1
                        have H' := Aside0.mk H
                        clear H
                        obtain ⟨Ao51, co51, eo51⟩ := Kd.R_slice HO_12.out
                        subst eo51
                        go_wp2
                        go_loopg [105] kj44 (fun kq v105 w' => ∃ (x105_5 : Int), v105 = .int .i64 x105_5 ∧ Aside0 (madrigallaw01_LexBlanks.l0 kq a1 t494 (wrap64 (Int.tmod (IntKind.u64.wrap (a2)) (IntKind.u64.wrap (wrap64 ((t494.length : Int) + 1))))) t500 (t500.length : Int) x105_5 = some r) ∧ Aside0 (kq ≤ kj44) ∧ Aside0 (Kd.R k38 38 w' w.heap.size (fun k_ => some k_ ≠ ((.slice Ao51 t500.length co51) : Value).ownBlock) (.slice Ao29 t494.length co29) t494) ∧ Aside0 (Kd.R k38 38 w' w.heap.size (fun k_ => some k_ ≠ ((.slice Ao29 t494.length co29) : Value).ownBlock) (.slice Ao51 t500.length co51) t500) ∧ Aside0 (Below w.heap.size w w'))
                        case atStart => exact ⟨(0), (by first | rfl | (simp; done) | (simp [*]; done)), H', ⟨Nat.le_refl _⟩, ⟨by (with_reducible repeat (first | apply Kd.R_alloc | apply Kd.R_drewN | apply Kd.R_drew)); exact HO_7.out⟩, ⟨by (with_reducible repeat (first | apply Kd.R_alloc | apply Kd.R_drewN | apply Kd.R_drew)); exact HO_12.out⟩, ⟨by repeat (first | (with_reducible first | exact HB.out | apply below_alloc | apply pw_below_drewN | apply below_drew1) | exact HB.out)⟩⟩
                        case round =>
                         clear H'
                         try clear c1
                         try clear c2
                         try clear p2
                         try clear c3
                         try clear c4
                         try clear p4
                         try clear q4
                         try clear hx4
                         try clear c5
                         try clear p6
                         try clear c9
                         try clear c11
                         try clear c12
                         try clear c13
                         try clear c23
                         try clear c25
                         try clear c25b0
                         try clear c25b1
                         try clear c26
                         try clear c26b0
                         try clear c26b1
                         try clear c30
                         try clear c30b0
                         try clear c32
                         try clear c32b0
                         try clear c34
                         try clear c34b0
                         try clear c35
                         try clear c36
                         try clear c36b0
                         try clear c36b1
                         try clear c37
                         try clear c37b0
                         try clear c37b1
                         try clear c38
                         try clear c38b0
                         try clear c38b1
                         try clear c38b2
                         try clear c39
                         try clear c39b0
                         try clear c39b1
                         try clear c39b2
                         try clear c40
                         try clear c40b0
                         try clear c40b1
                         try clear c40b2
                         try clear c41
                         try clear c41b0
                         try clear c42
                         try clear c42b0
                         try clear c43
                         try clear c43b0
                         try clear c43b1
                         try clear c43b2
                         try clear c48
                         try clear c48b0
                         try clear c48b1
                         try clear p49
                         try clear q49
                         try clear hx49
                         try clear c50
                         try clear hx499_0
                         try clear hx499_1
                         try clear hx499_2
                         try clear hx499_3
                         try clear hx499_4
                         try clear p2
                         try clear p4
                         try clear p49
                         try clear p499
                         try clear p6
                         try clear q4
                         try clear q49
                         try clear q499
                         obtain ⟨x105_5, rfl, HA, HK5, HO_7, HO_103, HB⟩ := hrel
                         cases gk with
                         | zero => exact absurd HA.out (by simp [madrigallaw01_LexBlanks.l0])
                         | succ k5 =>
                          have H := HA.out
                          clear HA
                          simp only [madrigallaw01_LexBlanks.l0] at H
                          by_cases c52 : x105_5 < (t500.length : Int)
                          ·rw [if_pos c52] at H
                           have c52b0 : decide (x105_5 < (t500.length : Int)) = true := decide_eq_true c52
                           clear c52
                           by_cases c53 : 0 ≤ x105_5
                           ·rw [if_pos c53] at H
                            have c53b0 : decide (0 ≤ x105_5) = true := decide_eq_true c53
                            clear c53
                            by_cases c54 : x105_5 < (t500.length : Int)
                            ·rw [if_pos c54] at H
                             have c54b0 : decide (x105_5 < (t500.length : Int)) = true := decide_eq_true c54
                             clear c54
                             by_cases c55 : x105_5 ≥ (wrap64 (Int.tmod (IntKind.u64.wrap (a2)) (IntKind.u64.wrap (wrap64 ((t494.length : Int) + 1)))))
                             ·rw [if_pos c55] at H
                              have c55b0 : decide ((wrap64 (Int.tmod (IntKind.u64.wrap (a2)) (IntKind.u64.wrap (wrap64 ((t494.length : Int) + 1))))) ≤ x105_5) = true := decide_eq_true c55
                              clear c55
                              by_cases c56 : x105_5 < (t494.length : Int)
                              ·rw [if_pos c56] at H
                               have c56b0 : decide (x105_5 < (t494.length : Int)) = true := decide_eq_true c56
                               clear c56
                               replace H := Option.bind_eq_some_iff.mp H
                               obtain ⟨t508, A570, H⟩ := H
                               replace H : (if t508 = true then (if ((rd_T38 t500 x105_5).f3) = (wrap64 (((rd_T38 t494 x105_5).f3) + (wrap64 ((a1.size : Int) + 2)))) then (if ((rd_T38 t500 x105_5).f4) = (wrap64 (((rd_T38 t494 x105_5).f4) + (wrap64 ((a1.size : Int) + 2)))) then (madrigallaw01_LexBlanks.l0 k5 a1 t494 (wrap64 (Int.tmod (IntKind.u64.wrap (a2)) (IntKind.u64.wrap (wrap64 ((t494.length : Int) + 1))))) t500 (t500.length : Int) (wrap64 (x105_5 + 1))) else (some false)) else (some false)) else (some false)) = some r := H
                               have A57 := Aside0.mk A570
                               clear A570
                               by_cases c58 : t508 = true
                               ·subst c58
                                have H1 : (if ((rd_T38 t500 x105_5).f3) = (wrap64 (((rd_T38 t494 x105_5).f3) + (wrap64 ((a1.size : Int) + 2)))) then (if ((rd_T38 t500 x105_5).f4) = (wrap64 (((rd_T38 t494 x105_5).f4) + (wrap64 ((a1.size : Int) + 2)))) then (madrigallaw01_LexBlanks.l0 k5 a1 t494 (wrap64 (Int.tmod (IntKind.u64.wrap (a2)) (IntKind.u64.wrap (wrap64 ((t494.length : Int) + 1))))) t500 (t500.length : Int) (wrap64 (x105_5 + 1))) else (some false)) else (some false)) = some r := by rw [if_pos rfl] at H; exact H
                                clear H
                                have H := H1
                                clear H1
                                by_cases c59 : ((rd_T38 t500 x105_5).f3) = (wrap64 (((rd_T38 t494 x105_5).f3) + (wrap64 ((a1.size : Int) + 2))))
                                ·rw [if_pos c59] at H
                                 have c59b0 : (((rd_T38 t500 x105_5).f3) == (wrap64 (((rd_T38 t494 x105_5).f3) + (wrap64 ((a1.size : Int) + 2))))) = true := beq_iff_eq.mpr c59
                                 have c59b1 : (((rd_T38 t500 x105_5).f3) != (wrap64 (((rd_T38 t494 x105_5).f3) + (wrap64 ((a1.size : Int) + 2))))) = false := bne_eq_false_iff_eq.mpr c59
                                 clear c59
                                 by_cases c60 : ((rd_T38 t500 x105_5).f4) = (wrap64 (((rd_T38 t494 x105_5).f4) + (wrap64 ((a1.size : Int) + 2))))
                                 ·rw [if_pos c60] at H
                                  have c60b0 : (((rd_T38 t500 x105_5).f4) == (wrap64 (((rd_T38 t494 x105_5).f4) + (wrap64 ((a1.size : Int) + 2))))) = true := beq_iff_eq.mpr c60
                                  have c60b1 : (((rd_T38 t500 x105_5).f4) != (wrap64 (((rd_T38 t494 x105_5).f4) + (wrap64 ((a1.size : Int) + 2))))) = false := bne_eq_false_iff_eq.mpr c60
                                  clear c60
                                  have H' := Aside0.mk H
                                  clear H
                                  have p505 : 0 ≤ (x105_5 : Int) := of_decide_eq_true (by first | (with_reducible assumption) | assumption)
                                  have q505 : x105_5 < (t500.length : Int) := of_decide_eq_true (by first | (with_reducible assumption) | assumption)
                                  obtain ⟨ad505, e505, hx505_0, hx505_1, hx505_2, hx505_3, hx505_4⟩ := at_T38 (Kd.R_reads' HO_103.out).2.2 x105_5 p505 q505
                                  cases e505
                                  replace p505 := eq_true p505
                                  replace q505 := eq_true q505
                                  try go_wp2_with (first | ((with_reducible refine gate_dst (N := 15) rfl ?_); (try (refine gate_guard (by rfl) ?_; dsimp only)); refine box_event ?hg (N := 15) ?hd (cs := #[.int .i64 0, .int .i64 0, .string (⟨#[]⟩ : ByteArray), .int .i64 0, .int .i64 0]) (t := 38) ?hr ?_; (case hd => rfl); (case hg => rfl); (case hr => first | (go_simp; done) | (go_simp; rfl)); intro gb506 hg w61 hbox hb; have n0_ := Aside0.mk (Kd.R_below (Kd.R_elderB (by (with_reducible repeat (first | apply Kd.R_alloc | apply Kd.R_drewN | apply Kd.R_drew)); exact HO_7.out) gb506 (Nat.le_of_eq hg.symm)) hb); have n1_ := Aside0.mk (Kd.R_below (Kd.R_elderB (by (with_reducible repeat (first | apply Kd.R_alloc | apply Kd.R_drewN | apply Kd.R_drew)); exact HO_103.out) gb506 (Nat.le_of_eq hg.symm)) hb); have n2_ := Aside0.mk (below_step (by repeat (first | (with_reducible first | exact HB.out | apply below_alloc | apply pw_below_drewN | apply below_drew1) | exact HB.out)) hb); have n3_ := Aside0.mk (hbox); have n4_ := Aside0.mk ((by rw [hg]; exact (below_size (by repeat (first | (with_reducible first | exact HB.out | apply below_alloc | apply pw_below_drewN | apply below_drew1) | exact HB.out))) : w.heap.size ≤ gb506)); have n5_ := Aside0.mk ((by rw [hg]; exact (below_size (by repeat (first | (with_reducible first | exact HB.out | apply below_alloc | apply pw_below_drewN | apply below_drew1) | exact HB.out))) : w.heap.size ≤ gb506)); clear HO_7; clear HO_103; clear HB; have HO_7 := n0_; have HO_103 := n1_; have HB := n2_; have BK506 := n3_; have GW506 := n4_; have GE506 := n5_; clear n0_ n1_ n2_ n3_ n4_ n5_; clear hb hbox hg; have hcz62_0 : w61.cell? ⟨gb506, 0, none⟩ = some (.int .i64 0) := (blk_cell BK506.out 0).trans rfl; have hcz62_1 : w61.cell? ⟨gb506, 1, none⟩ = some (.int .i64 0) := (blk_cell BK506.out 1).trans rfl; have hcz62_2 : w61.cell? ⟨gb506, 2, none⟩ = some (.string (⟨#[]⟩ : ByteArray)) := (blk_cell BK506.out 2).trans rfl; have hcz62_3 : w61.cell? ⟨gb506, 3, none⟩ = some (.int .i64 0) := (blk_cell BK506.out 3).trans rfl; have hcz62_4 : w61.cell? ⟨gb506, 4, none⟩ = some (.int .i64 0) := (blk_cell BK506.out 4).trans rfl; have hfz62_0 := blk_frozen BK506.out 0; have hfz62_1 := blk_frozen BK506.out 1; have hfz62_2 := blk_frozen BK506.out 2; have hfz62_3 := blk_frozen BK506.out 3; have hfz62_4 := blk_frozen BK506.out 4))
                                  have n0_ : Aside0 (Kd.R k38 38 (((((w61.setCell ⟨gb506, 0, none⟩ (.int .i64 ((rd_T38 t500 x105_5).f0))).setCell ⟨gb506, 1, none⟩ (.int .i64 ((rd_T38 t500 x105_5).f1))).setCell ⟨gb506, 2, none⟩ (.string ((rd_T38 t500 x105_5).f2))).setCell ⟨gb506, 3, none⟩ (.int .i64 ((rd_T38 t500 x105_5).f3))).setCell ⟨gb506, 4, none⟩ (.int .i64 ((rd_T38 t500 x105_5).f4))) w.heap.size (fun k_ => some k_ ≠ (.slice (some ad505) t500.length co51 : Value).ownBlock ∧ k_ ≠ gb506) (.slice Ao29 t494.length co29) t494) := ⟨by (with_reducible repeat (first | apply Kd.R_alloc | apply Kd.R_drewN | apply Kd.R_drew)); exact Kd.R_mono (Kd.R_far (p := ⟨gb506, 4, none⟩) (Kd.R_far (p := ⟨gb506, 3, none⟩) (Kd.R_far (p := ⟨gb506, 2, none⟩) (Kd.R_far (p := ⟨gb506, 1, none⟩) (Kd.R_far (p := ⟨gb506, 0, none⟩) (Kd.R_mono HO_7.out (fun k_ hk => (⟨hk, hk.2⟩ : _ ∧ k_ ≠ gb506))) (fun _ hk => hk.2) (.int .i64 ((rd_T38 t500 x105_5).f0))) (fun _ hk => hk.2) (.int .i64 ((rd_T38 t500 x105_5).f1))) (fun _ hk => hk.2) (.string ((rd_T38 t500 x105_5).f2))) (fun _ hk => hk.2) (.int .i64 ((rd_T38 t500 x105_5).f3))) (fun _ hk => hk.2) (.int .i64 ((rd_T38 t500 x105_5).f4))) (fun _ hk => ⟨hk.1.1, hk.1.2⟩)⟩
                                  have n1_ : Aside0 (Kd.R k38 38 (((((w61.setCell ⟨gb506, 0, none⟩ (.int .i64 ((rd_T38 t500 x105_5).f0))).setCell ⟨gb506, 1, none⟩ (.int .i64 ((rd_T38 t500 x105_5).f1))).setCell ⟨gb506, 2, none⟩ (.string ((rd_T38 t500 x105_5).f2))).setCell ⟨gb506, 3, none⟩ (.int .i64 ((rd_T38 t500 x105_5).f3))).setCell ⟨gb506, 4, none⟩ (.int .i64 ((rd_T38 t500 x105_5).f4))) w.heap.size (fun k_ => some k_ ≠ (.slice Ao29 t494.length co29 : Value).ownBlock ∧ k_ ≠ gb506) (.slice (some ad505) t500.length co51) t500) := ⟨by (with_reducible repeat (first | apply Kd.R_alloc | apply Kd.R_drewN | apply Kd.R_drew)); exact Kd.R_mono (Kd.R_far (p := ⟨gb506, 4, none⟩) (Kd.R_far (p := ⟨gb506, 3, none⟩) (Kd.R_far (p := ⟨gb506, 2, none⟩) (Kd.R_far (p := ⟨gb506, 1, none⟩) (Kd.R_far (p := ⟨gb506, 0, none⟩) (Kd.R_mono HO_103.out (fun k_ hk => (⟨hk, hk.2⟩ : _ ∧ k_ ≠ gb506))) (fun _ hk => hk.2) (.int .i64 ((rd_T38 t500 x105_5).f0))) (fun _ hk => hk.2) (.int .i64 ((rd_T38 t500 x105_5).f1))) (fun _ hk => hk.2) (.string ((rd_T38 t500 x105_5).f2))) (fun _ hk => hk.2) (.int .i64 ((rd_T38 t500 x105_5).f3))) (fun _ hk => hk.2) (.int .i64 ((rd_T38 t500 x105_5).f4))) (fun _ hk => ⟨hk.1.1, hk.1.2⟩)⟩
                                  have n2_ : Aside0 ((((((w61.setCell ⟨gb506, 0, none⟩ (.int .i64 ((rd_T38 t500 x105_5).f0))).setCell ⟨gb506, 1, none⟩ (.int .i64 ((rd_T38 t500 x105_5).f1))).setCell ⟨gb506, 2, none⟩ (.string ((rd_T38 t500 x105_5).f2))).setCell ⟨gb506, 3, none⟩ (.int .i64 ((rd_T38 t500 x105_5).f3))).setCell ⟨gb506, 4, none⟩ (.int .i64 ((rd_T38 t500 x105_5).f4))).heap[gb506]? = some (.cells #[.int .i64 ((rd_T38 t500 x105_5).f0), .int .i64 ((rd_T38 t500 x105_5).f1), .string ((rd_T38 t500 x105_5).f2), .int .i64 ((rd_T38 t500 x105_5).f3), .int .i64 ((rd_T38 t500 x105_5).f4)] 38 (0, 0))) := ⟨by (with_reducible repeat (first | refine blk_drewN ?_ _ | refine blk_drew ?_ | refine blk_alloc ?_ _)); refine blk_put (cs := #[.int .i64 ((rd_T38 t500 x105_5).f0), .int .i64 ((rd_T38 t500 x105_5).f1), .string ((rd_T38 t500 x105_5).f2), .int .i64 ((rd_T38 t500 x105_5).f3), .int .i64 0]) ?_ 4 _ rfl; (with_reducible repeat (first | refine blk_drewN ?_ _ | refine blk_drew ?_ | refine blk_alloc ?_ _)); refine blk_put (cs := #[.int .i64 ((rd_T38 t500 x105_5).f0), .int .i64 ((rd_T38 t500 x105_5).f1), .string ((rd_T38 t500 x105_5).f2), .int .i64 0, .int .i64 0]) ?_ 3 _ rfl; (with_reducible repeat (first | refine blk_drewN ?_ _ | refine blk_drew ?_ | refine blk_alloc ?_ _)); refine blk_put (cs := #[.int .i64 ((rd_T38 t500 x105_5).f0), .int .i64 ((rd_T38 t500 x105_5).f1), .string (⟨#[]⟩ : ByteArray), .int .i64 0, .int .i64 0]) ?_ 2 _ rfl; (with_reducible repeat (first | refine blk_drewN ?_ _ | refine blk_drew ?_ | refine blk_alloc ?_ _)); refine blk_put (cs := #[.int .i64 ((rd_T38 t500 x105_5).f0), .int .i64 0, .string (⟨#[]⟩ : ByteArray), .int .i64 0, .int .i64 0]) ?_ 1 _ rfl; (with_reducible repeat (first | refine blk_drewN ?_ _ | refine blk_drew ?_ | refine blk_alloc ?_ _)); refine blk_put (cs := #[.int .i64 0, .int .i64 0, .string (⟨#[]⟩ : ByteArray), .int .i64 0, .int .i64 0]) ?_ 0 _ rfl; (with_reducible repeat (first | refine blk_drewN ?_ _ | refine blk_drew ?_ | refine blk_alloc ?_ _)); exact BK506.out⟩
                                  have n3_ : Aside0 (Below w.heap.size w (((((w61.setCell ⟨gb506, 0, none⟩ (.int .i64 ((rd_T38 t500 x105_5).f0))).setCell ⟨gb506, 1, none⟩ (.int .i64 ((rd_T38 t500 x105_5).f1))).setCell ⟨gb506, 2, none⟩ (.string ((rd_T38 t500 x105_5).f2))).setCell ⟨gb506, 3, none⟩ (.int .i64 ((rd_T38 t500 x105_5).f3))).setCell ⟨gb506, 4, none⟩ (.int .i64 ((rd_T38 t500 x105_5).f4)))) := ⟨by repeat (first | (with_reducible first | exact HB.out | apply below_alloc | apply pw_below_drewN | apply below_drew1 | refine below_set ?_ GE506.out) | exact HB.out)⟩
                                  (try clear HO_7)
                                  (try clear HO_103)
                                  (try clear BK506)
                                  (try clear HB)
                                  generalize (((((w61.setCell ⟨gb506, 0, none⟩ (.int .i64 ((rd_T38 t500 x105_5).f0))).setCell ⟨gb506, 1, none⟩ (.int .i64 ((rd_T38 t500 x105_5).f1))).setCell ⟨gb506, 2, none⟩ (.string ((rd_T38 t500 x105_5).f2))).setCell ⟨gb506, 3, none⟩ (.int .i64 ((rd_T38 t500 x105_5).f3))).setCell ⟨gb506, 4, none⟩ (.int .i64 ((rd_T38 t500 x105_5).f4))) = w63 at n0_ n1_ n2_ n3_ ⊢
                                  have HO_7 := n0_
                                  have HO_103 := n1_
                                  have BK506 := n2_
                                  have HB := n3_
                                  clear n0_ n1_ n2_ n3_
                                  replace HO_7 := Aside0.mk (Kd.R_drew HO_7.out)
                                  replace HO_103 := Aside0.mk (Kd.R_drew HO_103.out)
                                  replace BK506 := Aside0.mk (blk_drew BK506.out)
                                  replace HB := Aside0.mk (below_drew1 HB.out)
                                  have p507 : 0 ≤ (x105_5 : Int) := of_decide_eq_true (by first | (with_reducible assumption) | assumption)
                                  have q507 : x105_5 < (t494.length : Int) := of_decide_eq_true (by first | (with_reducible assumption) | assumption)
                                  obtain ⟨ad507, e507, hx507_0, hx507_1, hx507_2, hx507_3, hx507_4⟩ := at_T38 (Kd.R_reads' HO_7.out).2.2 x105_5 p507 q507
                                  cases e507
                                  replace p507 := eq_true p507
                                  replace q507 := eq_true q507
                                  have p509 : 0 ≤ (x105_5 : Int) := of_decide_eq_true (by first | (with_reducible assumption) | assumption)
                                  have q509 : x105_5 < (t494.length : Int) := of_decide_eq_true (by first | (with_reducible assumption) | assumption)
                                  obtain ⟨ad509, e509, hx509_0, hx509_1, hx509_2, hx509_3, hx509_4⟩ := at_T38 (Kd.R_reads' HO_7.out).2.2 x105_5 p509 q509
                                  obtain rfl : ad507 = ad509 := (by injection e509)
                                  replace p509 := eq_true p509
                                  replace q509 := eq_true q509
                                  have p510 : 0 ≤ (x105_5 : Int) := of_decide_eq_true (by first | (with_reducible assumption) | assumption)
                                  have q510 : x105_5 < (t494.length : Int) := of_decide_eq_true (by first | (with_reducible assumption) | assumption)
                                  obtain ⟨ad510, e510, hx510_0, hx510_1, hx510_2, hx510_3, hx510_4⟩ := at_T38 (Kd.R_reads' HO_7.out).2.2 x105_5 p510 q510
                                  obtain rfl : ad507 = ad510 := (by injection e510)
                                  replace p510 := eq_true p510
                                  replace q510 := eq_true q510
                                  refine start_ (n := 31) (S := fun w' => w'.cell? ⟨gb506, 0, none⟩ = some (.int .i64 ((rd_T38 t500 x105_5).f0)) ∧ w'.cell? ⟨gb506, 1, none⟩ = some (.int .i64 ((rd_T38 t500 x105_5).f1)) ∧ w'.cell? ⟨gb506, 2, none⟩ = some (.string ((rd_T38 t500 x105_5).f2)) ∧ w'.cell? ⟨gb506, 3, none⟩ = some (.int .i64 ((rd_T38 t500 x105_5).f3)) ∧ w'.cell? ⟨gb506, 4, none⟩ = some (.int .i64 ((rd_T38 t500 x105_5).f4)) ∧ w'.cell? (ad507.add ((x105_5).toNat * 5)) = some (.int .i64 ((rd_T38 t494 x105_5).f0)) ∧ w'.cell? ⟨(ad507.add ((x105_5).toNat * 5)).block, (ad507.add ((x105_5).toNat * 5)).off + 1, none⟩ = some (.int .i64 ((rd_T38 t494 x105_5).f1)) ∧ w'.cell? ⟨(ad507.add ((x105_5).toNat * 5)).block, (ad507.add ((x105_5).toNat * 5)).off + 2, none⟩ = some (.string ((rd_T38 t494 x105_5).f2)) ∧ w'.cell? ⟨(ad507.add ((x105_5).toNat * 5)).block, (ad507.add ((x105_5).toNat * 5)).off + 3, none⟩ = some (.int .i64 ((rd_T38 t494 x105_5).f3)) ∧ w'.cell? ⟨(ad507.add ((x105_5).toNat * 5)).block, (ad507.add ((x105_5).toNat * 5)).off + 4, none⟩ = some (.int .i64 ((rd_T38 t494 x105_5).f4)) ∧ w'.cell? (ad507.add ((x105_5).toNat * 5)) = some (.int .i64 ((rd_T38 t494 x105_5).f0)) ∧ w'.cell? ⟨(ad507.add ((x105_5).toNat * 5)).block, (ad507.add ((x105_5).toNat * 5)).off + 1, none⟩ = some (.int .i64 ((rd_T38 t494 x105_5).f1)) ∧ w'.cell? ⟨(ad507.add ((x105_5).toNat * 5)).block, (ad507.add ((x105_5).toNat * 5)).off + 2, none⟩ = some (.string ((rd_T38 t494 x105_5).f2)) ∧ w'.cell? ⟨(ad507.add ((x105_5).toNat * 5)).block, (ad507.add ((x105_5).toNat * 5)).off + 3, none⟩ = some (.int .i64 ((rd_T38 t494 x105_5).f3)) ∧ w'.cell? ⟨(ad507.add ((x105_5).toNat * 5)).block, (ad507.add ((x105_5).toNat * 5)).off + 4, none⟩ = some (.int .i64 ((rd_T38 t494 x105_5).f4)) ∧ w'.cell? (ad507.add ((x105_5).toNat * 5)) = some (.int .i64 ((rd_T38 t494 x105_5).f0)) ∧ w'.cell? ⟨(ad507.add ((x105_5).toNat * 5)).block, (ad507.add ((x105_5).toNat * 5)).off + 1, none⟩ = some (.int .i64 ((rd_T38 t494 x105_5).f1)) ∧ w'.cell? ⟨(ad507.add ((x105_5).toNat * 5)).block, (ad507.add ((x105_5).toNat * 5)).off + 2, none⟩ = some (.string ((rd_T38 t494 x105_5).f2)) ∧ w'.cell? ⟨(ad507.add ((x105_5).toNat * 5)).block, (ad507.add ((x105_5).toNat * 5)).off + 3, none⟩ = some (.int .i64 ((rd_T38 t494 x105_5).f3)) ∧ w'.cell? ⟨(ad507.add ((x105_5).toNat * 5)).block, (ad507.add ((x105_5).toNat * 5)).off + 4, none⟩ = some (.int .i64 ((rd_T38 t494 x105_5).f4))) (ds := []) #[X,X,X,X,X,X,X,X,X,X,X,X,X,X,X,X,X,X,X,X,X,X,X,X,X,X,X,X,X,X,X] (by kernel_rfl) rfl rfl ⟨(blk_cell BK506.out 0).trans rfl, (blk_cell BK506.out 1).trans rfl, (blk_cell BK506.out 2).trans rfl, (blk_cell BK506.out 3).trans rfl, (blk_cell BK506.out 4).trans rfl, hx507_0, hx507_1, hx507_2, hx507_3, hx507_4, hx509_0, hx509_1, hx509_2, hx509_3, hx509_4, hx510_0, hx510_1, hx510_2, hx510_3, hx510_4⟩ (fun hHeld => ?_); refine with_tabW madrigallaw01_LexBlanks.tab23 madrigallaw01_LexBlanks.bits23 (fun HT_ HW_ => ?_)
                                  generalize w63.drew = w64 at HO_7 HO_103 BK506 HB hx507_0 hx507_1 hx507_2 hx507_3 hx507_4 hx509_0 hx509_1 hx509_2 hx509_3 hx509_4 hx510_0 hx510_1 hx510_2 hx510_3 hx510_4 hHeld ⊢
                                  refine pure_ (i := 1) (N := some 117) (v := ?_) (a' := ?_) #[X,Y,X,X,X,X,X,X,X,X,X,X,X,X,X,X,X,X,X,X,X,X,X,X,X,X,X,X,X,X,X] rfl rfl (any_of HT_.out (by kernel_rfl)) (fun _ _ _ h => h) (Or.inl ⟨by rfl, ?_⟩) ?_ ?_
                                  rotate_left
                                  ·intro w'
                                   go_simp
                                   with_reducible rfl
                                  rotate_left
                                  ·simp only [qa_]
                                   rfl
                                  refine pure_ (i := 2) (N := some 118) (v := ?_) (a' := ?_) #[X,Y,Y,X,X,X,X,X,X,X,X,X,X,X,X,X,X,X,X,X,X,X,X,X,X,X,X,X,X,X,X] rfl rfl (any_of HT_.out (by kernel_rfl)) (fun _ _ _ h => h) (Or.inl ⟨by rfl, ?_⟩) ?_ ?_
                                  rotate_left
                                  ·intro w'
                                   go_simp
                                   with_reducible rfl
                                  rotate_left
                                  ·simp only [qa_]
                                   rfl
                                  refine pure_ (i := 3) (N := some 119) (v := ?_) (a' := ?_) #[X,Y,Y,Y,X,X,X,X,X,X,X,X,X,X,X,X,X,X,X,X,X,X,X,X,X,X,X,X,X,X,X] rfl rfl (any_of HT_.out (by kernel_rfl)) (fun _ _ _ h => h) (Or.inl ⟨by rfl, ?_⟩) ?_ ?_
                                  rotate_left
                                  ·intro w'
                                   go_simp
                                   with_reducible rfl
                                  rotate_left
                                  ·simp only [qa_]
                                   rfl
                                  refine take_ (i := 0) (N := some 116) (v := ?_) (a' := ?_) #[Y,Y,Y,Y,X,X,X,X,X,X,X,X,X,X,X,X,X,X,X,X,X,X,X,X,X,X,X,X,X,X,X] rfl rfl (take_ofW HT_.out HW_.out (by kernel_rfl)) (fun _ _ _ h => h) (Or.inl ⟨by rfl, ?_⟩) hHeld ?_ ?_
                                  rotate_left
                                  ·rintro w' ⟨s0, s1, s2, s3, s4, s5, s6, s7, s8, s9, s10, s11, s12, s13, s14, s15, s16, s17, s18, s19⟩
                                   go_simp
                                   with_reducible rfl
                                  rotate_left
                                  ·simp only [qa_]
                                   rfl
                                  refine take_ (i := 4) (N := some 120) (v := ?_) (a' := ?_) #[Y,Y,Y,Y,Y,X,X,X,X,X,X,X,X,X,X,X,X,X,X,X,X,X,X,X,X,X,X,X,X,X,X] rfl rfl (take_ofW HT_.out HW_.out (by kernel_rfl)) (fun _ _ _ h => h) (Or.inl ⟨by rfl, ?_⟩) hHeld ?_ ?_
                                  rotate_left
                                  ·rintro w' ⟨s0, s1, s2, s3, s4, s5, s6, s7, s8, s9, s10, s11, s12, s13, s14, s15, s16, s17, s18, s19⟩
                                   go_simp
                                   with_reducible rfl
                                  rotate_left
                                  ·simp only [qa_]
                                   rfl
                                  refine one_ (i := 5) (N := some 121) #[Y,Y,Y,Y,Y,Y,X,X,X,X,X,X,X,X,X,X,X,X,X,X,X,X,X,X,X,X,X,X,X,X,X] rfl rfl (one_of HT_.out (by kernel_rfl)) (by decide) (fun K hK => ?_)
                                  refine goes_ Tryz.func29 (by kernel_rfl) rfl #[.agg #[.int .i64 ((rd_T38 t500 x105_5).f0), .int .i64 ((rd_T38 t500 x105_5).f1), .string ((rd_T38 t500 x105_5).f2), .int .i64 ((rd_T38 t500 x105_5).f3), .int .i64 ((rd_T38 t500 x105_5).f4)], .agg #[.int .i64 ((rd_T38 t494 x105_5).f0), .int .i64 ((rd_T38 t494 x105_5).f1), .string ((rd_T38 t494 x105_5).f2), .int .i64 ((rd_T38 t494 x105_5).f3), .int .i64 ((rd_T38 t494 x105_5).f4)]] (by rfl) rfl rfl (by (try simp only [List.map_toArray, List.map_cons, List.map_nil]); first | done | rfl | (simp only [List.length_drop, List.length_take]; rfl)) ?_
                                  with_reducible refine (madrigalref01_Like.calls ((rd_T38 t500 x105_5).f0) ((rd_T38 t500 x105_5).f1) ((rd_T38 t500 x105_5).f2) ((rd_T38 t500 x105_5).f3) ((rd_T38 t500 x105_5).f4) ((rd_T38 t494 x105_5).f0) ((rd_T38 t494 x105_5).f1) ((rd_T38 t494 x105_5).f2) ((rd_T38 t494 x105_5).f3) ((rd_T38 t494 x105_5).f4) true _ A57.out).mono ?_
                                  rintro e w65 ⟨rfl, hb⟩
                                  have HS5_ := (hb.cell (World.block_lt_of_cell? _ _ (hHeld.2.2.2.2.2.1))).trans (hHeld.2.2.2.2.2.1)
                                  have HS6_ := (hb.cell (World.block_lt_of_cell? _ _ (hHeld.2.2.2.2.2.2.1))).trans (hHeld.2.2.2.2.2.2.1)
                                  have HS7_ := (hb.cell (World.block_lt_of_cell? _ _ (hHeld.2.2.2.2.2.2.2.1))).trans (hHeld.2.2.2.2.2.2.2.1)
                                  have HS8_ := (hb.cell (World.block_lt_of_cell? _ _ (hHeld.2.2.2.2.2.2.2.2.1))).trans (hHeld.2.2.2.2.2.2.2.2.1)
                                  have HS9_ := (hb.cell (World.block_lt_of_cell? _ _ (hHeld.2.2.2.2.2.2.2.2.2.1))).trans (hHeld.2.2.2.2.2.2.2.2.2.1)
                                  have HS10_ := (hb.cell (World.block_lt_of_cell? _ _ (hHeld.2.2.2.2.2.2.2.2.2.2.1))).trans (hHeld.2.2.2.2.2.2.2.2.2.2.1)
                                  have HS11_ := (hb.cell (World.block_lt_of_cell? _ _ (hHeld.2.2.2.2.2.2.2.2.2.2.2.1))).trans (hHeld.2.2.2.2.2.2.2.2.2.2.2.1)
                                  have HS12_ := (hb.cell (World.block_lt_of_cell? _ _ (hHeld.2.2.2.2.2.2.2.2.2.2.2.2.1))).trans (hHeld.2.2.2.2.2.2.2.2.2.2.2.2.1)
                                  have HS13_ := (hb.cell (World.block_lt_of_cell? _ _ (hHeld.2.2.2.2.2.2.2.2.2.2.2.2.2.1))).trans (hHeld.2.2.2.2.2.2.2.2.2.2.2.2.2.1)
                                  have HS14_ := (hb.cell (World.block_lt_of_cell? _ _ (hHeld.2.2.2.2.2.2.2.2.2.2.2.2.2.2.1))).trans (hHeld.2.2.2.2.2.2.2.2.2.2.2.2.2.2.1)
                                  have HS15_ := (hb.cell (World.block_lt_of_cell? _ _ (hHeld.2.2.2.2.2.2.2.2.2.2.2.2.2.2.2.1))).trans (hHeld.2.2.2.2.2.2.2.2.2.2.2.2.2.2.2.1)
                                  have HS16_ := (hb.cell (World.block_lt_of_cell? _ _ (hHeld.2.2.2.2.2.2.2.2.2.2.2.2.2.2.2.2.1))).trans (hHeld.2.2.2.2.2.2.2.2.2.2.2.2.2.2.2.2.1)
                                  have HS17_ := (hb.cell (World.block_lt_of_cell? _ _ (hHeld.2.2.2.2.2.2.2.2.2.2.2.2.2.2.2.2.2.1))).trans (hHeld.2.2.2.2.2.2.2.2.2.2.2.2.2.2.2.2.2.1)
                                  have HS18_ := (hb.cell (World.block_lt_of_cell? _ _ (hHeld.2.2.2.2.2.2.2.2.2.2.2.2.2.2.2.2.2.2.1))).trans (hHeld.2.2.2.2.2.2.2.2.2.2.2.2.2.2.2.2.2.2.1)
                                  have HS19_ := (hb.cell (World.block_lt_of_cell? _ _ (hHeld.2.2.2.2.2.2.2.2.2.2.2.2.2.2.2.2.2.2.2))).trans (hHeld.2.2.2.2.2.2.2.2.2.2.2.2.2.2.2.2.2.2.2)
                                  refine ⟨_, rfl, ?_⟩
                                  replace HO_7 := Aside0.mk (Kd.R_below (by (with_reducible repeat (first | apply Kd.R_alloc | apply Kd.R_drewN | apply Kd.R_drew)); exact HO_7.out) hb)
                                  replace HO_103 := Aside0.mk (Kd.R_below (by (with_reducible repeat (first | apply Kd.R_alloc | apply Kd.R_drewN | apply Kd.R_drew)); exact HO_103.out) hb)
                                  replace BK506 := Aside0.mk (blk_below (g := gb506) (o := .cells #[.int .i64 ((rd_T38 t500 x105_5).f0), .int .i64 ((rd_T38 t500 x105_5).f1), .string ((rd_T38 t500 x105_5).f2), .int .i64 ((rd_T38 t500 x105_5).f3), .int .i64 ((rd_T38 t500 x105_5).f4)] 38 (0, 0)) (by (with_reducible repeat (first | refine blk_drewN ?_ _ | refine blk_drew ?_ | refine blk_alloc ?_ _)); exact BK506.out) hb)
                                  replace HB := Aside0.mk (below_step (by repeat (first | (with_reducible first | exact HB.out | apply below_alloc | apply pw_below_drewN | apply below_drew1 | refine below_set ?_ GE506.out) | exact HB.out)) hb)
                                  (try clear hb); (try clear hb2); (try clear hk); (try clear hi)
                                  refine hK.out _ _ ⟨(blk_cell BK506.out 0).trans rfl, (blk_cell BK506.out 1).trans rfl, (blk_cell BK506.out 2).trans rfl, (blk_cell BK506.out 3).trans rfl, (blk_cell BK506.out 4).trans rfl, HS5_, HS6_, HS7_, HS8_, HS9_, HS10_, HS11_, HS12_, HS13_, HS14_, HS15_, HS16_, HS17_, HS18_, HS19_⟩ (fun hHeld => ?_)
                                  clear hK K
                                  refine norm_ (a' := ?_) ?_ ?_
                                  rotate_left
                                  ·show Act.put _ (some 121) _ = _
                                   simp only [qa_]
                                   rfl
                                  refine pure_ (i := 6) (N := some 122) (v := ?_) (a' := ?_) #[Y,Y,Y,Y,Y,Y,Y,X,X,X,X,X,X,X,X,X,X,X,X,X,X,X,X,X,X,X,X,X,X,X,X] rfl rfl (any_of HT_.out (by kernel_rfl)) (fun _ _ _ h => h) (Or.inl ⟨by rfl, ?_⟩) ?_ ?_
                                  rotate_left
                                  ·intro w'
                                   go_simp
                                   with_reducible rfl
                                  rotate_left
                                  ·simp only [qa_]
                                   rfl
                                  refine pure_ (i := 7) (N := some 123) (v := ?_) (a' := ?_) #[Y,Y,Y,Y,Y,Y,Y,Y,X,X,X,X,X,X,X,X,X,X,X,X,X,X,X,X,X,X,X,X,X,X,X] rfl rfl (any_of HT_.out (by kernel_rfl)) (fun _ _ _ h => h) (Or.inl ⟨by rfl, ?_⟩) ?_ ?_
                                  rotate_left
                                  ·intro w'
                                   go_simp
                                   with_reducible rfl
                                  rotate_left
                                  ·simp only [qa_]
                                   rfl
                                  refine pure_ (i := 8) (N := some 124) (v := ?_) (a' := ?_) #[Y,Y,Y,Y,Y,Y,Y,Y,Y,X,X,X,X,X,X,X,X,X,X,X,X,X,X,X,X,X,X,X,X,X,X] rfl rfl (any_of HT_.out (by kernel_rfl)) (fun _ _ _ h => h) (Or.inl ⟨by rfl, ?_⟩) ?_ ?_
                                  rotate_left
                                  ·intro w'
                                   go_simp
                                   with_reducible rfl
                                  rotate_left
                                  ·simp only [qa_]
                                   rfl
                                  refine pure_ (i := 10) (N := some 126) (v := ?_) (a' := ?_) #[Y,Y,Y,Y,Y,Y,Y,Y,Y,X,Y,X,X,X,X,X,X,X,X,X,X,X,X,X,X,X,X,X,X,X,X] rfl rfl (any_of HT_.out (by kernel_rfl)) (fun _ _ _ h => h) (Or.inl ⟨by rfl, ?_⟩) ?_ ?_
                                  rotate_left
                                  ·intro w'
                                   go_simp
                                   with_reducible rfl
                                  rotate_left
                                  ·simp only [qa_]
                                   rfl
                                  refine pure_ (i := 11) (N := some 127) (v := ?_) (a' := ?_) #[Y,Y,Y,Y,Y,Y,Y,Y,Y,X,Y,Y,X,X,X,X,X,X,X,X,X,X,X,X,X,X,X,X,X,X,X] rfl rfl (any_of HT_.out (by kernel_rfl)) (fun _ _ _ h => h) (Or.inl ⟨by rfl, ?_⟩) ?_ ?_
                                  rotate_left
                                  ·intro w'
                                   go_simp
                                   with_reducible rfl
                                  rotate_left
                                  ·simp only [qa_]
                                   rfl
                                  refine pure_ (i := 12) (N := some 128) (v := ?_) (a' := ?_) #[Y,Y,Y,Y,Y,Y,Y,Y,Y,X,Y,Y,Y,X,X,X,X,X,X,X,X,X,X,X,X,X,X,X,X,X,X] rfl rfl (any_of HT_.out (by kernel_rfl)) (fun _ _ _ h => h) (Or.inl ⟨by rfl, ?_⟩) ?_ ?_
                                  rotate_left
                                  ·intro w'
                                   go_simp
                                   with_reducible rfl
                                  rotate_left
                                  ·simp only [qa_]
                                   rfl
                                  refine pure_ (i := 13) (N := some 129) (v := ?_) (a' := ?_) #[Y,Y,Y,Y,Y,Y,Y,Y,Y,X,Y,Y,Y,Y,X,X,X,X,X,X,X,X,X,X,X,X,X,X,X,X,X] rfl rfl (any_of HT_.out (by kernel_rfl)) (fun _ _ _ h => h) (Or.inl ⟨by rfl, ?_⟩) ?_ ?_
                                  rotate_left
                                  ·intro w'
                                   go_simp
                                   with_reducible rfl
                                  rotate_left
                                  ·simp only [qa_]
                                   rfl
                                  refine pure_ (i := 15) (N := some 131) (v := ?_) (a' := ?_) #[Y,Y,Y,Y,Y,Y,Y,Y,Y,X,Y,Y,Y,Y,X,Y,X,X,X,X,X,X,X,X,X,X,X,X,X,X,X] rfl rfl (any_of HT_.out (by kernel_rfl)) (fun _ _ _ h => h) (Or.inl ⟨by rfl, ?_⟩) ?_ ?_
                                  rotate_left
                                  ·intro w'
                                   go_simp
                                   with_reducible rfl
                                  rotate_left
                                  ·simp only [qa_]
                                   rfl
                                  refine take_ (i := 9) (N := some 125) (v := ?_) (a' := ?_) #[Y,Y,Y,Y,Y,Y,Y,Y,Y,Y,Y,Y,Y,Y,X,Y,X,X,X,X,X,X,X,X,X,X,X,X,X,X,X] rfl rfl (take_ofW HT_.out HW_.out (by kernel_rfl)) (fun _ _ _ h => h) (Or.inl ⟨by rfl, ?_⟩) hHeld ?_ ?_
                                  rotate_left
                                  ·rintro w' ⟨s0, s1, s2, s3, s4, s5, s6, s7, s8, s9, s10, s11, s12, s13, s14, s15, s16, s17, s18, s19⟩
                                   go_simp
                                   with_reducible rfl
                                  rotate_left
                                  ·simp only [qa_]
                                   rfl
                                  refine take_ (i := 14) (N := some 130) (v := ?_) (a' := ?_) #[Y,Y,Y,Y,Y,Y,Y,Y,Y,Y,Y,Y,Y,Y,Y,Y,X,X,X,X,X,X,X,X,X,X,X,X,X,X,X] rfl rfl (take_ofW HT_.out HW_.out (by kernel_rfl)) (fun _ _ _ h => h) (Or.inl ⟨by rfl, ?_⟩) hHeld ?_ ?_
                                  rotate_left
                                  ·rintro w' ⟨s0, s1, s2, s3, s4, s5, s6, s7, s8, s9, s10, s11, s12, s13, s14, s15, s16, s17, s18, s19⟩
                                   go_simp
                                   with_reducible rfl
                                  rotate_left
                                  ·simp only [qa_]
                                   rfl
                                  refine pure_ (i := 16) (N := some 132) (v := ?_) (a' := ?_) #[Y,Y,Y,Y,Y,Y,Y,Y,Y,Y,Y,Y,Y,Y,Y,Y,Y,X,X,X,X,X,X,X,X,X,X,X,X,X,X] rfl rfl (any_of HT_.out (by kernel_rfl)) (fun _ _ _ h => h) (Or.inl ⟨by rfl, ?_⟩) ?_ ?_
                                  rotate_left
                                  ·intro w'
                                   go_simp
                                   with_reducible rfl
                                  rotate_left
                                  ·simp only [qa_]
                                   rfl
                                  refine pure_ (i := 17) (N := some 133) (v := ?_) (a' := ?_) #[Y,Y,Y,Y,Y,Y,Y,Y,Y,Y,Y,Y,Y,Y,Y,Y,Y,Y,X,X,X,X,X,X,X,X,X,X,X,X,X] rfl rfl (any_of HT_.out (by kernel_rfl)) (fun _ _ _ h => h) (Or.inl ⟨by rfl, ?_⟩) ?_ ?_
                                  rotate_left
                                  ·intro w'
                                   go_simp
                                   with_reducible rfl
                                  rotate_left
                                  ·simp only [qa_]
                                   rfl
                                  refine pure_ (i := 18) (N := some 134) (v := ?_) (a' := ?_) #[Y,Y,Y,Y,Y,Y,Y,Y,Y,Y,Y,Y,Y,Y,Y,Y,Y,Y,Y,X,X,X,X,X,X,X,X,X,X,X,X] rfl rfl (any_of HT_.out (by kernel_rfl)) (fun _ _ _ h => h) (Or.inl ⟨by rfl, ?_⟩) ?_ ?_
                                  rotate_left
                                  ·intro w'
                                   go_simp
                                   with_reducible rfl
                                  rotate_left
                                  ·simp only [qa_]
                                   rfl
                                  refine pure_ (i := 19) (N := some 135) (v := ?_) (a' := ?_) #[Y,Y,Y,Y,Y,Y,Y,Y,Y,Y,Y,Y,Y,Y,Y,Y,Y,Y,Y,Y,X,X,X,X,X,X,X,X,X,X,X] rfl rfl (any_of HT_.out (by kernel_rfl)) (fun _ _ _ h => h) (Or.inl ⟨by rfl, ?_⟩) ?_ ?_
                                  rotate_left
                                  ·intro w'
                                   go_simp
                                   with_reducible rfl
                                  rotate_left
                                  ·simp only [qa_]
                                   rfl
                                  refine pure_ (i := 20) (N := some 136) (v := ?_) (a' := ?_) #[Y,Y,Y,Y,Y,Y,Y,Y,Y,Y,Y,Y,Y,Y,Y,Y,Y,Y,Y,Y,Y,X,X,X,X,X,X,X,X,X,X] rfl rfl (any_of HT_.out (by kernel_rfl)) (fun _ _ _ h => h) (Or.inl ⟨by rfl, ?_⟩) ?_ ?_
                                  rotate_left
                                  ·intro w'
                                   go_simp
                                   with_reducible rfl
                                  rotate_left
                                  ·simp only [qa_]
                                   rfl
                                  refine pure_ (i := 22) (N := some 138) (v := ?_) (a' := ?_) #[Y,Y,Y,Y,Y,Y,Y,Y,Y,Y,Y,Y,Y,Y,Y,Y,Y,Y,Y,Y,Y,X,Y,X,X,X,X,X,X,X,X] rfl rfl (any_of HT_.out (by kernel_rfl)) (fun _ _ _ h => h) (Or.inl ⟨by rfl, ?_⟩) ?_ ?_
                                  rotate_left
                                  ·intro w'
                                   go_simp
                                   with_reducible rfl
                                  rotate_left
                                  ·simp only [qa_]
                                   rfl
                                  refine pure_ (i := 23) (N := some 139) (v := ?_) (a' := ?_) #[Y,Y,Y,Y,Y,Y,Y,Y,Y,Y,Y,Y,Y,Y,Y,Y,Y,Y,Y,Y,Y,X,Y,Y,X,X,X,X,X,X,X] rfl rfl (any_of HT_.out (by kernel_rfl)) (fun _ _ _ h => h) (Or.inl ⟨by rfl, ?_⟩) ?_ ?_
                                  rotate_left
                                  ·intro w'
                                   go_simp
                                   with_reducible rfl
                                  rotate_left
                                  ·simp only [qa_]
                                   rfl
                                  refine pure_ (i := 24) (N := some 140) (v := ?_) (a' := ?_) #[Y,Y,Y,Y,Y,Y,Y,Y,Y,Y,Y,Y,Y,Y,Y,Y,Y,Y,Y,Y,Y,X,Y,Y,Y,X,X,X,X,X,X] rfl rfl (any_of HT_.out (by kernel_rfl)) (fun _ _ _ h => h) (Or.inl ⟨by rfl, ?_⟩) ?_ ?_
                                  rotate_left
                                  ·intro w'
                                   go_simp
                                   with_reducible rfl
                                  rotate_left
                                  ·simp only [qa_]
                                   rfl
                                  refine pure_ (i := 25) (N := some 141) (v := ?_) (a' := ?_) #[Y,Y,Y,Y,Y,Y,Y,Y,Y,Y,Y,Y,Y,Y,Y,Y,Y,Y,Y,Y,Y,X,Y,Y,Y,Y,X,X,X,X,X] rfl rfl (any_of HT_.out (by kernel_rfl)) (fun _ _ _ h => h) (Or.inl ⟨by rfl, ?_⟩) ?_ ?_
                                  rotate_left
                                  ·intro w'
                                   go_simp
                                   with_reducible rfl
                                  rotate_left
                                  ·simp only [qa_]
                                   rfl
                                  refine pure_ (i := 27) (N := some 143) (v := ?_) (a' := ?_) #[Y,Y,Y,Y,Y,Y,Y,Y,Y,Y,Y,Y,Y,Y,Y,Y,Y,Y,Y,Y,Y,X,Y,Y,Y,Y,X,Y,X,X,X] rfl rfl (any_of HT_.out (by kernel_rfl)) (fun _ _ _ h => h) (Or.inl ⟨by rfl, ?_⟩) ?_ ?_
                                  rotate_left
                                  ·intro w'
                                   go_simp
                                   with_reducible rfl
                                  rotate_left
                                  ·simp only [qa_]
                                   rfl
                                  refine take_ (i := 21) (N := some 137) (v := ?_) (a' := ?_) #[Y,Y,Y,Y,Y,Y,Y,Y,Y,Y,Y,Y,Y,Y,Y,Y,Y,Y,Y,Y,Y,Y,Y,Y,Y,Y,X,Y,X,X,X] rfl rfl (take_ofW HT_.out HW_.out (by kernel_rfl)) (fun _ _ _ h => h) (Or.inl ⟨by rfl, ?_⟩) hHeld ?_ ?_
                                  rotate_left
                                  ·rintro w' ⟨s0, s1, s2, s3, s4, s5, s6, s7, s8, s9, s10, s11, s12, s13, s14, s15, s16, s17, s18, s19⟩
                                   go_simp
                                   with_reducible rfl
                                  rotate_left
                                  ·simp only [qa_]
                                   rfl
                                  refine take_ (i := 26) (N := some 142) (v := ?_) (a' := ?_) #[Y,Y,Y,Y,Y,Y,Y,Y,Y,Y,Y,Y,Y,Y,Y,Y,Y,Y,Y,Y,Y,Y,Y,Y,Y,Y,Y,Y,X,X,X] rfl rfl (take_ofW HT_.out HW_.out (by kernel_rfl)) (fun _ _ _ h => h) (Or.inl ⟨by rfl, ?_⟩) hHeld ?_ ?_
                                  rotate_left
                                  ·rintro w' ⟨s0, s1, s2, s3, s4, s5, s6, s7, s8, s9, s10, s11, s12, s13, s14, s15, s16, s17, s18, s19⟩
                                   go_simp
                                   with_reducible rfl
                                  rotate_left
                                  ·simp only [qa_]
                                   rfl
                                  refine pure_ (i := 28) (N := some 144) (v := ?_) (a' := ?_) #[Y,Y,Y,Y,Y,Y,Y,Y,Y,Y,Y,Y,Y,Y,Y,Y,Y,Y,Y,Y,Y,Y,Y,Y,Y,Y,Y,Y,Y,X,X] rfl rfl (any_of HT_.out (by kernel_rfl)) (fun _ _ _ h => h) (Or.inl ⟨by rfl, ?_⟩) ?_ ?_
                                  rotate_left
                                  ·intro w'
                                   go_simp
                                   with_reducible rfl
                                  rotate_left
                                  ·simp only [qa_]
                                   rfl
                                  refine pure_ (i := 29) (N := some 145) (v := ?_) (a' := ?_) #[Y,Y,Y,Y,Y,Y,Y,Y,Y,Y,Y,Y,Y,Y,Y,Y,Y,Y,Y,Y,Y,Y,Y,Y,Y,Y,Y,Y,Y,Y,X] rfl rfl (any_of HT_.out (by kernel_rfl)) (fun _ _ _ h => h) (Or.inl ⟨by rfl, ?_⟩) ?_ ?_
                                  rotate_left
                                  ·intro w'
                                   go_simp
                                   with_reducible rfl
                                  rotate_left
                                  ·simp only [qa_]
                                   rfl
                                  refine pure_ (i := 30) (N := some 146) (v := ?_) (a' := ?_) #[Y,Y,Y,Y,Y,Y,Y,Y,Y,Y,Y,Y,Y,Y,Y,Y,Y,Y,Y,Y,Y,Y,Y,Y,Y,Y,Y,Y,Y,Y,Y] rfl rfl (any_of HT_.out (by kernel_rfl)) (fun _ _ _ h => h) (Or.inl ⟨by rfl, ?_⟩) ?_ ?_
                                  rotate_left
                                  ·intro w'
                                   go_simp
                                   with_reducible rfl
                                  rotate_left
                                  ·simp only [qa_]
                                   rfl
                                  refine done_ (done_of HT_.out (by kernel_rfl)) ?_
                                  try go_wp2
                                  go_roundg k5
                                  case measure => have := HJ5.out; have := HJ26.out; have := HJ32.out; have := HJ44.out; have := HK5.out; omega
                                  case rel => exact ⟨(wrap64 (x105_5 + 1)), (by first | rfl | (simp; done) | (simp [*]; done)), H', ⟨by have := HJ5.out; have := HJ26.out; have := HJ32.out; have := HJ44.out; have := HK5.out; omega⟩, ⟨by (with_reducible repeat (first | apply Kd.R_alloc | apply Kd.R_drewN | apply Kd.R_drew)); exact Kd.R_mono HO_7.out (fun _ hk => hk.1)⟩, ⟨by (with_reducible repeat (first | apply Kd.R_alloc | apply Kd.R_drewN | apply Kd.R_drew)); exact Kd.R_mono HO_103.out (fun _ hk => hk.1)⟩, ⟨by repeat (first | (with_reducible first | exact HB.out | apply below_alloc | apply pw_below_drewN | apply below_drew1 | refine below_set ?_ GE506.out) | exact HB.out)⟩⟩
                                 ·rw [if_neg c60] at H
                                  have c60b0 : (((rd_T38 t500 x105_5).f4) == (wrap64 (((rd_T38 t494 x105_5).f4) + (wrap64 ((a1.size : Int) + 2))))) = false := beq_eq_false_iff_ne.mpr c60
                                  have c60b1 : (((rd_T38 t500 x105_5).f4) != (wrap64 (((rd_T38 t494 x105_5).f4) + (wrap64 ((a1.size : Int) + 2))))) = true := bne_iff_ne.mpr c60
                                  exact absurd H (by rw [HR_.out]; simp)
                                ·rw [if_neg c59] at H
                                 have c59b0 : (((rd_T38 t500 x105_5).f3) == (wrap64 (((rd_T38 t494 x105_5).f3) + (wrap64 ((a1.size : Int) + 2))))) = false := beq_eq_false_iff_ne.mpr c59
                                 have c59b1 : (((rd_T38 t500 x105_5).f3) != (wrap64 (((rd_T38 t494 x105_5).f3) + (wrap64 ((a1.size : Int) + 2))))) = true := bne_iff_ne.mpr c59
                                 exact absurd H (by rw [HR_.out]; simp)
                               ·replace c58 := Bool.eq_false_iff.mpr c58
                                subst c58
                                have H1 : (some false) = some r := by rw [if_neg (show ¬ (false = true) by decide)] at H; exact H
                                clear H
                                have H := H1
                                clear H1
                                exact absurd H (by rw [HR_.out]; simp)
                              ·rw [if_neg c56] at H
                               exact absurd H (by simp)
                             ·rw [if_neg c55] at H
                              have c55b0 : decide ((wrap64 (Int.tmod (IntKind.u64.wrap (a2)) (IntKind.u64.wrap (wrap64 ((t494.length : Int) + 1))))) ≤ x105_5) = false := decide_eq_false c55
                              clear c55
                              by_cases c81 : x105_5 < (t494.length : Int)
                              ·rw [if_pos c81] at H
                               have c81b0 : decide (x105_5 < (t494.length : Int)) = true := decide_eq_true c81
                               clear c81
                               replace H := Option.bind_eq_some_iff.mp H
                               obtain ⟨t512, A820, H⟩ := H
                               replace H : (if t512 = true then (if ((rd_T38 t500 x105_5).f3) = (wrap64 (((rd_T38 t494 x105_5).f3) + 0)) then (if ((rd_T38 t500 x105_5).f4) = (wrap64 (((rd_T38 t494 x105_5).f4) + 0)) then (madrigallaw01_LexBlanks.l0 k5 a1 t494 (wrap64 (Int.tmod (IntKind.u64.wrap (a2)) (IntKind.u64.wrap (wrap64 ((t494.length : Int) + 1))))) t500 (t500.length : Int) (wrap64 (x105_5 + 1))) else (some false)) else (some false)) else (some false)) = some r := H
                               have A82 := Aside0.mk A820
                               clear A820
                               by_cases c83 : t512 = true
                               ·subst c83
                                have H1 : (if ((rd_T38 t500 x105_5).f3) = (wrap64 (((rd_T38 t494 x105_5).f3) + 0)) then (if ((rd_T38 t500 x105_5).f4) = (wrap64 (((rd_T38 t494 x105_5).f4) + 0)) then (madrigallaw01_LexBlanks.l0 k5 a1 t494 (wrap64 (Int.tmod (IntKind.u64.wrap (a2)) (IntKind.u64.wrap (wrap64 ((t494.length : Int) + 1))))) t500 (t500.length : Int) (wrap64 (x105_5 + 1))) else (some false)) else (some false)) = some r := by rw [if_pos rfl] at H; exact H
                                clear H
                                have H := H1
                                clear H1
                                by_cases c84 : ((rd_T38 t500 x105_5).f3) = (wrap64 (((rd_T38 t494 x105_5).f3) + 0))
                                ·rw [if_pos c84] at H
                                 have c84b0 : (((rd_T38 t500 x105_5).f3) == (wrap64 (((rd_T38 t494 x105_5).f3) + 0))) = true := beq_iff_eq.mpr c84
                                 have c84b1 : (((rd_T38 t500 x105_5).f3) != (wrap64 (((rd_T38 t494 x105_5).f3) + 0))) = false := bne_eq_false_iff_eq.mpr c84
                                 have c84b6 : (((rd_T38 t500 x105_5).f3) == (wrap64 ((rd_T38 t494 x105_5).f3))) = true := beq_iff_eq.mpr (by rw [Int.add_zero] at c84; exact c84)
                                 have c84b7 : (((rd_T38 t500 x105_5).f3) != (wrap64 ((rd_T38 t494 x105_5).f3))) = false := bne_eq_false_iff_eq.mpr (by rw [Int.add_zero] at c84; exact c84)
                                 clear c84
                                 by_cases c85 : ((rd_T38 t500 x105_5).f4) = (wrap64 (((rd_T38 t494 x105_5).f4) + 0))
                                 ·rw [if_pos c85] at H
                                  have c85b0 : (((rd_T38 t500 x105_5).f4) == (wrap64 (((rd_T38 t494 x105_5).f4) + 0))) = true := beq_iff_eq.mpr c85
                                  have c85b1 : (((rd_T38 t500 x105_5).f4) != (wrap64 (((rd_T38 t494 x105_5).f4) + 0))) = false := bne_eq_false_iff_eq.mpr c85
                                  have c85b6 : (((rd_T38 t500 x105_5).f4) == (wrap64 ((rd_T38 t494 x105_5).f4))) = true := beq_iff_eq.mpr (by rw [Int.add_zero] at c85; exact c85)
                                  have c85b7 : (((rd_T38 t500 x105_5).f4) != (wrap64 ((rd_T38 t494 x105_5).f4))) = false := bne_eq_false_iff_eq.mpr (by rw [Int.add_zero] at c85; exact c85)
                                  clear c85
                                  have H' := Aside0.mk H
                                  clear H
                                  have p505 : 0 ≤ (x105_5 : Int) := of_decide_eq_true (by first | (with_reducible assumption) | assumption)
                                  have q505 : x105_5 < (t500.length : Int) := of_decide_eq_true (by first | (with_reducible assumption) | assumption)
                                  obtain ⟨ad505, e505, hx505_0, hx505_1, hx505_2, hx505_3, hx505_4⟩ := at_T38 (Kd.R_reads' HO_103.out).2.2 x105_5 p505 q505
                                  cases e505
                                  replace p505 := eq_true p505
                                  replace q505 := eq_true q505
                                  try go_wp2_with (first | ((with_reducible refine gate_dst (N := 15) rfl ?_); (try (refine gate_guard (by rfl) ?_; dsimp only)); refine box_event ?hg (N := 15) ?hd (cs := #[.int .i64 0, .int .i64 0, .string (⟨#[]⟩ : ByteArray), .int .i64 0, .int .i64 0]) (t := 38) ?hr ?_; (case hd => rfl); (case hg => rfl); (case hr => first | (go_simp; done) | (go_simp; rfl)); intro gb506 hg w86 hbox hb; have n0_ := Aside0.mk (Kd.R_below (Kd.R_elderB (by (with_reducible repeat (first | apply Kd.R_alloc | apply Kd.R_drewN | apply Kd.R_drew)); exact HO_7.out) gb506 (Nat.le_of_eq hg.symm)) hb); have n1_ := Aside0.mk (Kd.R_below (Kd.R_elderB (by (with_reducible repeat (first | apply Kd.R_alloc | apply Kd.R_drewN | apply Kd.R_drew)); exact HO_103.out) gb506 (Nat.le_of_eq hg.symm)) hb); have n2_ := Aside0.mk (below_step (by repeat (first | (with_reducible first | exact HB.out | apply below_alloc | apply pw_below_drewN | apply below_drew1) | exact HB.out)) hb); have n3_ := Aside0.mk (hbox); have n4_ := Aside0.mk ((by rw [hg]; exact (below_size (by repeat (first | (with_reducible first | exact HB.out | apply below_alloc | apply pw_below_drewN | apply below_drew1) | exact HB.out))) : w.heap.size ≤ gb506)); have n5_ := Aside0.mk ((by rw [hg]; exact (below_size (by repeat (first | (with_reducible first | exact HB.out | apply below_alloc | apply pw_below_drewN | apply below_drew1) | exact HB.out))) : w.heap.size ≤ gb506)); clear HO_7; clear HO_103; clear HB; have HO_7 := n0_; have HO_103 := n1_; have HB := n2_; have BK506 := n3_; have GW506 := n4_; have GE506 := n5_; clear n0_ n1_ n2_ n3_ n4_ n5_; clear hb hbox hg; have hcz87_0 : w86.cell? ⟨gb506, 0, none⟩ = some (.int .i64 0) := (blk_cell BK506.out 0).trans rfl; have hcz87_1 : w86.cell? ⟨gb506, 1, none⟩ = some (.int .i64 0) := (blk_cell BK506.out 1).trans rfl; have hcz87_2 : w86.cell? ⟨gb506, 2, none⟩ = some (.string (⟨#[]⟩ : ByteArray)) := (blk_cell BK506.out 2).trans rfl; have hcz87_3 : w86.cell? ⟨gb506, 3, none⟩ = some (.int .i64 0) := (blk_cell BK506.out 3).trans rfl; have hcz87_4 : w86.cell? ⟨gb506, 4, none⟩ = some (.int .i64 0) := (blk_cell BK506.out 4).trans rfl; have hfz87_0 := blk_frozen BK506.out 0; have hfz87_1 := blk_frozen BK506.out 1; have hfz87_2 := blk_frozen BK506.out 2; have hfz87_3 := blk_frozen BK506.out 3; have hfz87_4 := blk_frozen BK506.out 4))
                                  have n0_ : Aside0 (Kd.R k38 38 (((((w86.setCell ⟨gb506, 0, none⟩ (.int .i64 ((rd_T38 t500 x105_5).f0))).setCell ⟨gb506, 1, none⟩ (.int .i64 ((rd_T38 t500 x105_5).f1))).setCell ⟨gb506, 2, none⟩ (.string ((rd_T38 t500 x105_5).f2))).setCell ⟨gb506, 3, none⟩ (.int .i64 ((rd_T38 t500 x105_5).f3))).setCell ⟨gb506, 4, none⟩ (.int .i64 ((rd_T38 t500 x105_5).f4))) w.heap.size (fun k_ => some k_ ≠ (.slice (some ad505) t500.length co51 : Value).ownBlock ∧ k_ ≠ gb506) (.slice Ao29 t494.length co29) t494) := ⟨by (with_reducible repeat (first | apply Kd.R_alloc | apply Kd.R_drewN | apply Kd.R_drew)); exact Kd.R_mono (Kd.R_far (p := ⟨gb506, 4, none⟩) (Kd.R_far (p := ⟨gb506, 3, none⟩) (Kd.R_far (p := ⟨gb506, 2, none⟩) (Kd.R_far (p := ⟨gb506, 1, none⟩) (Kd.R_far (p := ⟨gb506, 0, none⟩) (Kd.R_mono HO_7.out (fun k_ hk => (⟨hk, hk.2⟩ : _ ∧ k_ ≠ gb506))) (fun _ hk => hk.2) (.int .i64 ((rd_T38 t500 x105_5).f0))) (fun _ hk => hk.2) (.int .i64 ((rd_T38 t500 x105_5).f1))) (fun _ hk => hk.2) (.string ((rd_T38 t500 x105_5).f2))) (fun _ hk => hk.2) (.int .i64 ((rd_T38 t500 x105_5).f3))) (fun _ hk => hk.2) (.int .i64 ((rd_T38 t500 x105_5).f4))) (fun _ hk => ⟨hk.1.1, hk.1.2⟩)⟩
                                  have n1_ : Aside0 (Kd.R k38 38 (((((w86.setCell ⟨gb506, 0, none⟩ (.int .i64 ((rd_T38 t500 x105_5).f0))).setCell ⟨gb506, 1, none⟩ (.int .i64 ((rd_T38 t500 x105_5).f1))).setCell ⟨gb506, 2, none⟩ (.string ((rd_T38 t500 x105_5).f2))).setCell ⟨gb506, 3, none⟩ (.int .i64 ((rd_T38 t500 x105_5).f3))).setCell ⟨gb506, 4, none⟩ (.int .i64 ((rd_T38 t500 x105_5).f4))) w.heap.size (fun k_ => some k_ ≠ (.slice Ao29 t494.length co29 : Value).ownBlock ∧ k_ ≠ gb506) (.slice (some ad505) t500.length co51) t500) := ⟨by (with_reducible repeat (first | apply Kd.R_alloc | apply Kd.R_drewN | apply Kd.R_drew)); exact Kd.R_mono (Kd.R_far (p := ⟨gb506, 4, none⟩) (Kd.R_far (p := ⟨gb506, 3, none⟩) (Kd.R_far (p := ⟨gb506, 2, none⟩) (Kd.R_far (p := ⟨gb506, 1, none⟩) (Kd.R_far (p := ⟨gb506, 0, none⟩) (Kd.R_mono HO_103.out (fun k_ hk => (⟨hk, hk.2⟩ : _ ∧ k_ ≠ gb506))) (fun _ hk => hk.2) (.int .i64 ((rd_T38 t500 x105_5).f0))) (fun _ hk => hk.2) (.int .i64 ((rd_T38 t500 x105_5).f1))) (fun _ hk => hk.2) (.string ((rd_T38 t500 x105_5).f2))) (fun _ hk => hk.2) (.int .i64 ((rd_T38 t500 x105_5).f3))) (fun _ hk => hk.2) (.int .i64 ((rd_T38 t500 x105_5).f4))) (fun _ hk => ⟨hk.1.1, hk.1.2⟩)⟩
                                  have n2_ : Aside0 ((((((w86.setCell ⟨gb506, 0, none⟩ (.int .i64 ((rd_T38 t500 x105_5).f0))).setCell ⟨gb506, 1, none⟩ (.int .i64 ((rd_T38 t500 x105_5).f1))).setCell ⟨gb506, 2, none⟩ (.string ((rd_T38 t500 x105_5).f2))).setCell ⟨gb506, 3, none⟩ (.int .i64 ((rd_T38 t500 x105_5).f3))).setCell ⟨gb506, 4, none⟩ (.int .i64 ((rd_T38 t500 x105_5).f4))).heap[gb506]? = some (.cells #[.int .i64 ((rd_T38 t500 x105_5).f0), .int .i64 ((rd_T38 t500 x105_5).f1), .string ((rd_T38 t500 x105_5).f2), .int .i64 ((rd_T38 t500 x105_5).f3), .int .i64 ((rd_T38 t500 x105_5).f4)] 38 (0, 0))) := ⟨by (with_reducible repeat (first | refine blk_drewN ?_ _ | refine blk_drew ?_ | refine blk_alloc ?_ _)); refine blk_put (cs := #[.int .i64 ((rd_T38 t500 x105_5).f0), .int .i64 ((rd_T38 t500 x105_5).f1), .string ((rd_T38 t500 x105_5).f2), .int .i64 ((rd_T38 t500 x105_5).f3), .int .i64 0]) ?_ 4 _ rfl; (with_reducible repeat (first | refine blk_drewN ?_ _ | refine blk_drew ?_ | refine blk_alloc ?_ _)); refine blk_put (cs := #[.int .i64 ((rd_T38 t500 x105_5).f0), .int .i64 ((rd_T38 t500 x105_5).f1), .string ((rd_T38 t500 x105_5).f2), .int .i64 0, .int .i64 0]) ?_ 3 _ rfl; (with_reducible repeat (first | refine blk_drewN ?_ _ | refine blk_drew ?_ | refine blk_alloc ?_ _)); refine blk_put (cs := #[.int .i64 ((rd_T38 t500 x105_5).f0), .int .i64 ((rd_T38 t500 x105_5).f1), .string (⟨#[]⟩ : ByteArray), .int .i64 0, .int .i64 0]) ?_ 2 _ rfl; (with_reducible repeat (first | refine blk_drewN ?_ _ | refine blk_drew ?_ | refine blk_alloc ?_ _)); refine blk_put (cs := #[.int .i64 ((rd_T38 t500 x105_5).f0), .int .i64 0, .string (⟨#[]⟩ : ByteArray), .int .i64 0, .int .i64 0]) ?_ 1 _ rfl; (with_reducible repeat (first | refine blk_drewN ?_ _ | refine blk_drew ?_ | refine blk_alloc ?_ _)); refine blk_put (cs := #[.int .i64 0, .int .i64 0, .string (⟨#[]⟩ : ByteArray), .int .i64 0, .int .i64 0]) ?_ 0 _ rfl; (with_reducible repeat (first | refine blk_drewN ?_ _ | refine blk_drew ?_ | refine blk_alloc ?_ _)); exact BK506.out⟩
                                  have n3_ : Aside0 (Below w.heap.size w (((((w86.setCell ⟨gb506, 0, none⟩ (.int .i64 ((rd_T38 t500 x105_5).f0))).setCell ⟨gb506, 1, none⟩ (.int .i64 ((rd_T38 t500 x105_5).f1))).setCell ⟨gb506, 2, none⟩ (.string ((rd_T38 t500 x105_5).f2))).setCell ⟨gb506, 3, none⟩ (.int .i64 ((rd_T38 t500 x105_5).f3))).setCell ⟨gb506, 4, none⟩ (.int .i64 ((rd_T38 t500 x105_5).f4)))) := ⟨by repeat (first | (with_reducible first | exact HB.out | apply below_alloc | apply pw_below_drewN | apply below_drew1 | refine below_set ?_ GE506.out) | exact HB.out)⟩
                                  (try clear HO_7)
                                  (try clear HO_103)
                                  (try clear BK506)
                                  (try clear HB)
                                  generalize (((((w86.setCell ⟨gb506, 0, none⟩ (.int .i64 ((rd_T38 t500 x105_5).f0))).setCell ⟨gb506, 1, none⟩ (.int .i64 ((rd_T38 t500 x105_5).f1))).setCell ⟨gb506, 2, none⟩ (.string ((rd_T38 t500 x105_5).f2))).setCell ⟨gb506, 3, none⟩ (.int .i64 ((rd_T38 t500 x105_5).f3))).setCell ⟨gb506, 4, none⟩ (.int .i64 ((rd_T38 t500 x105_5).f4))) = w88 at n0_ n1_ n2_ n3_ ⊢
                                  have HO_7 := n0_
                                  have HO_103 := n1_
                                  have BK506 := n2_
                                  have HB := n3_
                                  clear n0_ n1_ n2_ n3_
                                  replace HO_7 := Aside0.mk (Kd.R_drew HO_7.out)
                                  replace HO_103 := Aside0.mk (Kd.R_drew HO_103.out)
                                  replace BK506 := Aside0.mk (blk_drew BK506.out)
                                  replace HB := Aside0.mk (below_drew1 HB.out)
                                  have p511 : 0 ≤ (x105_5 : Int) := of_decide_eq_true (by first | (with_reducible assumption) | assumption)
                                  have q511 : x105_5 < (t494.length : Int) := of_decide_eq_true (by first | (with_reducible assumption) | assumption)
                                  obtain ⟨ad511, e511, hx511_0, hx511_1, hx511_2, hx511_3, hx511_4⟩ := at_T38 (Kd.R_reads' HO_7.out).2.2 x105_5 p511 q511
                                  cases e511
                                  replace p511 := eq_true p511
                                  replace q511 := eq_true q511
                                  have p513 : 0 ≤ (x105_5 : Int) := of_decide_eq_true (by first | (with_reducible assumption) | assumption)
                                  have q513 : x105_5 < (t494.length : Int) := of_decide_eq_true (by first | (with_reducible assumption) | assumption)
                                  obtain ⟨ad513, e513, hx513_0, hx513_1, hx513_2, hx513_3, hx513_4⟩ := at_T38 (Kd.R_reads' HO_7.out).2.2 x105_5 p513 q513
                                  obtain rfl : ad511 = ad513 := (by injection e513)
                                  replace p513 := eq_true p513
                                  replace q513 := eq_true q513
                                  have p514 : 0 ≤ (x105_5 : Int) := of_decide_eq_true (by first | (with_reducible assumption) | assumption)
                                  have q514 : x105_5 < (t494.length : Int) := of_decide_eq_true (by first | (with_reducible assumption) | assumption)
                                  obtain ⟨ad514, e514, hx514_0, hx514_1, hx514_2, hx514_3, hx514_4⟩ := at_T38 (Kd.R_reads' HO_7.out).2.2 x105_5 p514 q514
                                  obtain rfl : ad511 = ad514 := (by injection e514)
                                  replace p514 := eq_true p514
                                  replace q514 := eq_true q514
                                  refine start_ (n := 31) (S := fun w' => w'.cell? ⟨gb506, 0, none⟩ = some (.int .i64 ((rd_T38 t500 x105_5).f0)) ∧ w'.cell? ⟨gb506, 1, none⟩ = some (.int .i64 ((rd_T38 t500 x105_5).f1)) ∧ w'.cell? ⟨gb506, 2, none⟩ = some (.string ((rd_T38 t500 x105_5).f2)) ∧ w'.cell? ⟨gb506, 3, none⟩ = some (.int .i64 ((rd_T38 t500 x105_5).f3)) ∧ w'.cell? ⟨gb506, 4, none⟩ = some (.int .i64 ((rd_T38 t500 x105_5).f4)) ∧ w'.cell? (ad511.add ((x105_5).toNat * 5)) = some (.int .i64 ((rd_T38 t494 x105_5).f0)) ∧ w'.cell? ⟨(ad511.add ((x105_5).toNat * 5)).block, (ad511.add ((x105_5).toNat * 5)).off + 1, none⟩ = some (.int .i64 ((rd_T38 t494 x105_5).f1)) ∧ w'.cell? ⟨(ad511.add ((x105_5).toNat * 5)).block, (ad511.add ((x105_5).toNat * 5)).off + 2, none⟩ = some (.string ((rd_T38 t494 x105_5).f2)) ∧ w'.cell? ⟨(ad511.add ((x105_5).toNat * 5)).block, (ad511.add ((x105_5).toNat * 5)).off + 3, none⟩ = some (.int .i64 ((rd_T38 t494 x105_5).f3)) ∧ w'.cell? ⟨(ad511.add ((x105_5).toNat * 5)).block, (ad511.add ((x105_5).toNat * 5)).off + 4, none⟩ = some (.int .i64 ((rd_T38 t494 x105_5).f4)) ∧ w'.cell? (ad511.add ((x105_5).toNat * 5)) = some (.int .i64 ((rd_T38 t494 x105_5).f0)) ∧ w'.cell? ⟨(ad511.add ((x105_5).toNat * 5)).block, (ad511.add ((x105_5).toNat * 5)).off + 1, none⟩ = some (.int .i64 ((rd_T38 t494 x105_5).f1)) ∧ w'.cell? ⟨(ad511.add ((x105_5).toNat * 5)).block, (ad511.add ((x105_5).toNat * 5)).off + 2, none⟩ = some (.string ((rd_T38 t494 x105_5).f2)) ∧ w'.cell? ⟨(ad511.add ((x105_5).toNat * 5)).block, (ad511.add ((x105_5).toNat * 5)).off + 3, none⟩ = some (.int .i64 ((rd_T38 t494 x105_5).f3)) ∧ w'.cell? ⟨(ad511.add ((x105_5).toNat * 5)).block, (ad511.add ((x105_5).toNat * 5)).off + 4, none⟩ = some (.int .i64 ((rd_T38 t494 x105_5).f4)) ∧ w'.cell? (ad511.add ((x105_5).toNat * 5)) = some (.int .i64 ((rd_T38 t494 x105_5).f0)) ∧ w'.cell? ⟨(ad511.add ((x105_5).toNat * 5)).block, (ad511.add ((x105_5).toNat * 5)).off + 1, none⟩ = some (.int .i64 ((rd_T38 t494 x105_5).f1)) ∧ w'.cell? ⟨(ad511.add ((x105_5).toNat * 5)).block, (ad511.add ((x105_5).toNat * 5)).off + 2, none⟩ = some (.string ((rd_T38 t494 x105_5).f2)) ∧ w'.cell? ⟨(ad511.add ((x105_5).toNat * 5)).block, (ad511.add ((x105_5).toNat * 5)).off + 3, none⟩ = some (.int .i64 ((rd_T38 t494 x105_5).f3)) ∧ w'.cell? ⟨(ad511.add ((x105_5).toNat * 5)).block, (ad511.add ((x105_5).toNat * 5)).off + 4, none⟩ = some (.int .i64 ((rd_T38 t494 x105_5).f4))) (ds := []) #[X,X,X,X,X,X,X,X,X,X,X,X,X,X,X,X,X,X,X,X,X,X,X,X,X,X,X,X,X,X,X] (by kernel_rfl) rfl rfl ⟨(blk_cell BK506.out 0).trans rfl, (blk_cell BK506.out 1).trans rfl, (blk_cell BK506.out 2).trans rfl, (blk_cell BK506.out 3).trans rfl, (blk_cell BK506.out 4).trans rfl, hx511_0, hx511_1, hx511_2, hx511_3, hx511_4, hx513_0, hx513_1, hx513_2, hx513_3, hx513_4, hx514_0, hx514_1, hx514_2, hx514_3, hx514_4⟩ (fun hHeld => ?_); refine with_tabW madrigallaw01_LexBlanks.tab23 madrigallaw01_LexBlanks.bits23 (fun HT_ HW_ => ?_)
                                  generalize w88.drew = w89 at HO_7 HO_103 BK506 HB hx511_0 hx511_1 hx511_2 hx511_3 hx511_4 hx513_0 hx513_1 hx513_2 hx513_3 hx513_4 hx514_0 hx514_1 hx514_2 hx514_3 hx514_4 hHeld ⊢
                                  refine pure_ (i := 1) (N := some 117) (v := ?_) (a' := ?_) #[X,Y,X,X,X,X,X,X,X,X,X,X,X,X,X,X,X,X,X,X,X,X,X,X,X,X,X,X,X,X,X] rfl rfl (any_of HT_.out (by kernel_rfl)) (fun _ _ _ h => h) (Or.inl ⟨by rfl, ?_⟩) ?_ ?_
                                  rotate_left
                                  ·intro w'
                                   go_simp
                                   with_reducible rfl
                                  rotate_left
                                  ·simp only [qa_]
                                   rfl
                                  refine pure_ (i := 2) (N := some 118) (v := ?_) (a' := ?_) #[X,Y,Y,X,X,X,X,X,X,X,X,X,X,X,X,X,X,X,X,X,X,X,X,X,X,X,X,X,X,X,X] rfl rfl (any_of HT_.out (by kernel_rfl)) (fun _ _ _ h => h) (Or.inl ⟨by rfl, ?_⟩) ?_ ?_
                                  rotate_left
                                  ·intro w'
                                   go_simp
                                   with_reducible rfl
                                  rotate_left
                                  ·simp only [qa_]
                                   rfl
                                  refine pure_ (i := 3) (N := some 119) (v := ?_) (a' := ?_) #[X,Y,Y,Y,X,X,X,X,X,X,X,X,X,X,X,X,X,X,X,X,X,X,X,X,X,X,X,X,X,X,X] rfl rfl (any_of HT_.out (by kernel_rfl)) (fun _ _ _ h => h) (Or.inl ⟨by rfl, ?_⟩) ?_ ?_
                                  rotate_left
                                  ·intro w'
                                   go_simp
                                   with_reducible rfl
                                  rotate_left
                                  ·simp only [qa_]
                                   rfl
                                  refine take_ (i := 0) (N := some 116) (v := ?_) (a' := ?_) #[Y,Y,Y,Y,X,X,X,X,X,X,X,X,X,X,X,X,X,X,X,X,X,X,X,X,X,X,X,X,X,X,X] rfl rfl (take_ofW HT_.out HW_.out (by kernel_rfl)) (fun _ _ _ h => h) (Or.inl ⟨by rfl, ?_⟩) hHeld ?_ ?_
                                  rotate_left
                                  ·rintro w' ⟨s0, s1, s2, s3, s4, s5, s6, s7, s8, s9, s10, s11, s12, s13, s14, s15, s16, s17, s18, s19⟩
                                   go_simp
                                   with_reducible rfl
                                  rotate_left
                                  ·simp only [qa_]
                                   rfl
                                  refine take_ (i := 4) (N := some 120) (v := ?_) (a' := ?_) #[Y,Y,Y,Y,Y,X,X,X,X,X,X,X,X,X,X,X,X,X,X,X,X,X,X,X,X,X,X,X,X,X,X] rfl rfl (take_ofW HT_.out HW_.out (by kernel_rfl)) (fun _ _ _ h => h) (Or.inl ⟨by rfl, ?_⟩) hHeld ?_ ?_
                                  rotate_left
                                  ·rintro w' ⟨s0, s1, s2, s3, s4, s5, s6, s7, s8, s9, s10, s11, s12, s13, s14, s15, s16, s17, s18, s19⟩
                                   go_simp
                                   with_reducible rfl
                                  rotate_left
                                  ·simp only [qa_]
                                   rfl
                                  refine one_ (i := 5) (N := some 121) #[Y,Y,Y,Y,Y,Y,X,X,X,X,X,X,X,X,X,X,X,X,X,X,X,X,X,X,X,X,X,X,X,X,X] rfl rfl (one_of HT_.out (by kernel_rfl)) (by decide) (fun K hK => ?_)
                                  refine goes_ Tryz.func29 (by kernel_rfl) rfl #[.agg #[.int .i64 ((rd_T38 t500 x105_5).f0), .int .i64 ((rd_T38 t500 x105_5).f1), .string ((rd_T38 t500 x105_5).f2), .int .i64 ((rd_T38 t500 x105_5).f3), .int .i64 ((rd_T38 t500 x105_5).f4)], .agg #[.int .i64 ((rd_T38 t494 x105_5).f0), .int .i64 ((rd_T38 t494 x105_5).f1), .string ((rd_T38 t494 x105_5).f2), .int .i64 ((rd_T38 t494 x105_5).f3), .int .i64 ((rd_T38 t494 x105_5).f4)]] (by rfl) rfl rfl (by (try simp only [List.map_toArray, List.map_cons, List.map_nil]); first | done | rfl | (simp only [List.length_drop, List.length_take]; rfl)) ?_
                                  with_reducible refine (madrigalref01_Like.calls ((rd_T38 t500 x105_5).f0) ((rd_T38 t500 x105_5).f1) ((rd_T38 t500 x105_5).f2) ((rd_T38 t500 x105_5).f3) ((rd_T38 t500 x105_5).f4) ((rd_T38 t494 x105_5).f0) ((rd_T38 t494 x105_5).f1) ((rd_T38 t494 x105_5).f2) ((rd_T38 t494 x105_5).f3) ((rd_T38 t494 x105_5).f4) true _ A82.out).mono ?_
                                  rintro e w90 ⟨rfl, hb⟩
                                  have HS5_ := (hb.cell (World.block_lt_of_cell? _ _ (hHeld.2.2.2.2.2.1))).trans (hHeld.2.2.2.2.2.1)
                                  have HS6_ := (hb.cell (World.block_lt_of_cell? _ _ (hHeld.2.2.2.2.2.2.1))).trans (hHeld.2.2.2.2.2.2.1)
                                  have HS7_ := (hb.cell (World.block_lt_of_cell? _ _ (hHeld.2.2.2.2.2.2.2.1))).trans (hHeld.2.2.2.2.2.2.2.1)
                                  have HS8_ := (hb.cell (World.block_lt_of_cell? _ _ (hHeld.2.2.2.2.2.2.2.2.1))).trans (hHeld.2.2.2.2.2.2.2.2.1)
                                  have HS9_ := (hb.cell (World.block_lt_of_cell? _ _ (hHeld.2.2.2.2.2.2.2.2.2.1))).trans (hHeld.2.2.2.2.2.2.2.2.2.1)
                                  have HS10_ := (hb.cell (World.block_lt_of_cell? _ _ (hHeld.2.2.2.2.2.2.2.2.2.2.1))).trans (hHeld.2.2.2.2.2.2.2.2.2.2.1)
                                  have HS11_ := (hb.cell (World.block_lt_of_cell? _ _ (hHeld.2.2.2.2.2.2.2.2.2.2.2.1))).trans (hHeld.2.2.2.2.2.2.2.2.2.2.2.1)
                                  have HS12_ := (hb.cell (World.block_lt_of_cell? _ _ (hHeld.2.2.2.2.2.2.2.2.2.2.2.2.1))).trans (hHeld.2.2.2.2.2.2.2.2.2.2.2.2.1)
                                  have HS13_ := (hb.cell (World.block_lt_of_cell? _ _ (hHeld.2.2.2.2.2.2.2.2.2.2.2.2.2.1))).trans (hHeld.2.2.2.2.2.2.2.2.2.2.2.2.2.1)
                                  have HS14_ := (hb.cell (World.block_lt_of_cell? _ _ (hHeld.2.2.2.2.2.2.2.2.2.2.2.2.2.2.1))).trans (hHeld.2.2.2.2.2.2.2.2.2.2.2.2.2.2.1)
                                  have HS15_ := (hb.cell (World.block_lt_of_cell? _ _ (hHeld.2.2.2.2.2.2.2.2.2.2.2.2.2.2.2.1))).trans (hHeld.2.2.2.2.2.2.2.2.2.2.2.2.2.2.2.1)
                                  have HS16_ := (hb.cell (World.block_lt_of_cell? _ _ (hHeld.2.2.2.2.2.2.2.2.2.2.2.2.2.2.2.2.1))).trans (hHeld.2.2.2.2.2.2.2.2.2.2.2.2.2.2.2.2.1)
                                  have HS17_ := (hb.cell (World.block_lt_of_cell? _ _ (hHeld.2.2.2.2.2.2.2.2.2.2.2.2.2.2.2.2.2.1))).trans (hHeld.2.2.2.2.2.2.2.2.2.2.2.2.2.2.2.2.2.1)
                                  have HS18_ := (hb.cell (World.block_lt_of_cell? _ _ (hHeld.2.2.2.2.2.2.2.2.2.2.2.2.2.2.2.2.2.2.1))).trans (hHeld.2.2.2.2.2.2.2.2.2.2.2.2.2.2.2.2.2.2.1)
                                  have HS19_ := (hb.cell (World.block_lt_of_cell? _ _ (hHeld.2.2.2.2.2.2.2.2.2.2.2.2.2.2.2.2.2.2.2))).trans (hHeld.2.2.2.2.2.2.2.2.2.2.2.2.2.2.2.2.2.2.2)
                                  refine ⟨_, rfl, ?_⟩
                                  replace HO_7 := Aside0.mk (Kd.R_below (by (with_reducible repeat (first | apply Kd.R_alloc | apply Kd.R_drewN | apply Kd.R_drew)); exact HO_7.out) hb)
                                  replace HO_103 := Aside0.mk (Kd.R_below (by (with_reducible repeat (first | apply Kd.R_alloc | apply Kd.R_drewN | apply Kd.R_drew)); exact HO_103.out) hb)
                                  replace BK506 := Aside0.mk (blk_below (g := gb506) (o := .cells #[.int .i64 ((rd_T38 t500 x105_5).f0), .int .i64 ((rd_T38 t500 x105_5).f1), .string ((rd_T38 t500 x105_5).f2), .int .i64 ((rd_T38 t500 x105_5).f3), .int .i64 ((rd_T38 t500 x105_5).f4)] 38 (0, 0)) (by (with_reducible repeat (first | refine blk_drewN ?_ _ | refine blk_drew ?_ | refine blk_alloc ?_ _)); exact BK506.out) hb)
                                  replace HB := Aside0.mk (below_step (by repeat (first | (with_reducible first | exact HB.out | apply below_alloc | apply pw_below_drewN | apply below_drew1 | refine below_set ?_ GE506.out) | exact HB.out)) hb)
                                  (try clear hb); (try clear hb2); (try clear hk); (try clear hi)
                                  refine hK.out _ _ ⟨(blk_cell BK506.out 0).trans rfl, (blk_cell BK506.out 1).trans rfl, (blk_cell BK506.out 2).trans rfl, (blk_cell BK506.out 3).trans rfl, (blk_cell BK506.out 4).trans rfl, HS5_, HS6_, HS7_, HS8_, HS9_, HS10_, HS11_, HS12_, HS13_, HS14_, HS15_, HS16_, HS17_, HS18_, HS19_⟩ (fun hHeld => ?_)
                                  clear hK K
                                  refine norm_ (a' := ?_) ?_ ?_
                                  rotate_left
                                  ·show Act.put _ (some 121) _ = _
                                   simp only [qa_]
                                   rfl
                                  refine pure_ (i := 6) (N := some 122) (v := ?_) (a' := ?_) #[Y,Y,Y,Y,Y,Y,Y,X,X,X,X,X,X,X,X,X,X,X,X,X,X,X,X,X,X,X,X,X,X,X,X] rfl rfl (any_of HT_.out (by kernel_rfl)) (fun _ _ _ h => h) (Or.inl ⟨by rfl, ?_⟩) ?_ ?_
                                  rotate_left
                                  ·intro w'
                                   go_simp
                                   with_reducible rfl
                                  rotate_left
                                  ·simp only [qa_]
                                   rfl
                                  refine pure_ (i := 7) (N := some 123) (v := ?_) (a' := ?_) #[Y,Y,Y,Y,Y,Y,Y,Y,X,X,X,X,X,X,X,X,X,X,X,X,X,X,X,X,X,X,X,X,X,X,X] rfl rfl (any_of HT_.out (by kernel_rfl)) (fun _ _ _ h => h) (Or.inl ⟨by rfl, ?_⟩) ?_ ?_
                                  rotate_left
                                  ·intro w'
                                   go_simp
                                   with_reducible rfl
                                  rotate_left
                                  ·simp only [qa_]
                                   rfl
                                  refine pure_ (i := 8) (N := some 124) (v := ?_) (a' := ?_) #[Y,Y,Y,Y,Y,Y,Y,Y,Y,X,X,X,X,X,X,X,X,X,X,X,X,X,X,X,X,X,X,X,X,X,X] rfl rfl (any_of HT_.out (by kernel_rfl)) (fun _ _ _ h => h) (Or.inl ⟨by rfl, ?_⟩) ?_ ?_
                                  rotate_left
                                  ·intro w'
                                   go_simp
                                   with_reducible rfl
                                  rotate_left
                                  ·simp only [qa_]
                                   rfl
                                  refine pure_ (i := 10) (N := some 126) (v := ?_) (a' := ?_) #[Y,Y,Y,Y,Y,Y,Y,Y,Y,X,Y,X,X,X,X,X,X,X,X,X,X,X,X,X,X,X,X,X,X,X,X] rfl rfl (any_of HT_.out (by kernel_rfl)) (fun _ _ _ h => h) (Or.inl ⟨by rfl, ?_⟩) ?_ ?_
                                  rotate_left
                                  ·intro w'
                                   go_simp
                                   with_reducible rfl
                                  rotate_left
                                  ·simp only [qa_]
                                   rfl
                                  refine pure_ (i := 11) (N := some 127) (v := ?_) (a' := ?_) #[Y,Y,Y,Y,Y,Y,Y,Y,Y,X,Y,Y,X,X,X,X,X,X,X,X,X,X,X,X,X,X,X,X,X,X,X] rfl rfl (any_of HT_.out (by kernel_rfl)) (fun _ _ _ h => h) (Or.inl ⟨by rfl, ?_⟩) ?_ ?_
                                  rotate_left
                                  ·intro w'
                                   go_simp
                                   with_reducible rfl
                                  rotate_left
                                  ·simp only [qa_]
                                   rfl
                                  refine pure_ (i := 12) (N := some 128) (v := ?_) (a' := ?_) #[Y,Y,Y,Y,Y,Y,Y,Y,Y,X,Y,Y,Y,X,X,X,X,X,X,X,X,X,X,X,X,X,X,X,X,X,X] rfl rfl (any_of HT_.out (by kernel_rfl)) (fun _ _ _ h => h) (Or.inl ⟨by rfl, ?_⟩) ?_ ?_
                                  rotate_left
                                  ·intro w'
                                   go_simp
                                   with_reducible rfl
                                  rotate_left
                                  ·simp only [qa_]
                                   rfl
                                  refine pure_ (i := 13) (N := some 129) (v := ?_) (a' := ?_) #[Y,Y,Y,Y,Y,Y,Y,Y,Y,X,Y,Y,Y,Y,X,X,X,X,X,X,X,X,X,X,X,X,X,X,X,X,X] rfl rfl (any_of HT_.out (by kernel_rfl)) (fun _ _ _ h => h) (Or.inl ⟨by rfl, ?_⟩) ?_ ?_
                                  rotate_left
                                  ·intro w'
                                   go_simp
                                   with_reducible rfl
                                  rotate_left
                                  ·simp only [qa_]
                                   rfl
                                  refine pure_ (i := 15) (N := some 131) (v := ?_) (a' := ?_) #[Y,Y,Y,Y,Y,Y,Y,Y,Y,X,Y,Y,Y,Y,X,Y,X,X,X,X,X,X,X,X,X,X,X,X,X,X,X] rfl rfl (any_of HT_.out (by kernel_rfl)) (fun _ _ _ h => h) (Or.inl ⟨by rfl, ?_⟩) ?_ ?_
                                  rotate_left
                                  ·intro w'
                                   go_simp
                                   with_reducible rfl
                                  rotate_left
                                  ·simp only [qa_]
                                   rfl
                                  refine take_ (i := 9) (N := some 125) (v := ?_) (a' := ?_) #[Y,Y,Y,Y,Y,Y,Y,Y,Y,Y,Y,Y,Y,Y,X,Y,X,X,X,X,X,X,X,X,X,X,X,X,X,X,X] rfl rfl (take_ofW HT_.out HW_.out (by kernel_rfl)) (fun _ _ _ h => h) (Or.inl ⟨by rfl, ?_⟩) hHeld ?_ ?_
                                  rotate_left
                                  ·rintro w' ⟨s0, s1, s2, s3, s4, s5, s6, s7, s8, s9, s10, s11, s12, s13, s14, s15, s16, s17, s18, s19⟩
                                   go_simp
                                   with_reducible rfl
                                  rotate_left
                                  ·simp only [qa_]
                                   rfl
                                  refine take_ (i := 14) (N := some 130) (v := ?_) (a' := ?_) #[Y,Y,Y,Y,Y,Y,Y,Y,Y,Y,Y,Y,Y,Y,Y,Y,X,X,X,X,X,X,X,X,X,X,X,X,X,X,X] rfl rfl (take_ofW HT_.out HW_.out (by kernel_rfl)) (fun _ _ _ h => h) (Or.inl ⟨by rfl, ?_⟩) hHeld ?_ ?_
                                  rotate_left
                                  ·rintro w' ⟨s0, s1, s2, s3, s4, s5, s6, s7, s8, s9, s10, s11, s12, s13, s14, s15, s16, s17, s18, s19⟩
                                   go_simp
                                   with_reducible rfl
                                  rotate_left
                                  ·simp only [qa_]
                                   rfl
                                  refine pure_ (i := 16) (N := some 132) (v := ?_) (a' := ?_) #[Y,Y,Y,Y,Y,Y,Y,Y,Y,Y,Y,Y,Y,Y,Y,Y,Y,X,X,X,X,X,X,X,X,X,X,X,X,X,X] rfl rfl (any_of HT_.out (by kernel_rfl)) (fun _ _ _ h => h) (Or.inl ⟨by rfl, ?_⟩) ?_ ?_
                                  rotate_left
                                  ·intro w'
                                   go_simp
                                   with_reducible rfl
                                  rotate_left
                                  ·simp only [qa_]
                                   rfl
                                  refine pure_ (i := 17) (N := some 133) (v := ?_) (a' := ?_) #[Y,Y,Y,Y,Y,Y,Y,Y,Y,Y,Y,Y,Y,Y,Y,Y,Y,Y,X,X,X,X,X,X,X,X,X,X,X,X,X] rfl rfl (any_of HT_.out (by kernel_rfl)) (fun _ _ _ h => h) (Or.inl ⟨by rfl, ?_⟩) ?_ ?_
                                  rotate_left
                                  ·intro w'
                                   go_simp
                                   with_reducible rfl
                                  rotate_left
                                  ·simp only [qa_]
                                   rfl
                                  refine pure_ (i := 18) (N := some 134) (v := ?_) (a' := ?_) #[Y,Y,Y,Y,Y,Y,Y,Y,Y,Y,Y,Y,Y,Y,Y,Y,Y,Y,Y,X,X,X,X,X,X,X,X,X,X,X,X] rfl rfl (any_of HT_.out (by kernel_rfl)) (fun _ _ _ h => h) (Or.inl ⟨by rfl, ?_⟩) ?_ ?_
                                  rotate_left
                                  ·intro w'
                                   go_simp
                                   with_reducible rfl
                                  rotate_left
                                  ·simp only [qa_]
                                   rfl
                                  refine pure_ (i := 19) (N := some 135) (v := ?_) (a' := ?_) #[Y,Y,Y,Y,Y,Y,Y,Y,Y,Y,Y,Y,Y,Y,Y,Y,Y,Y,Y,Y,X,X,X,X,X,X,X,X,X,X,X] rfl rfl (any_of HT_.out (by kernel_rfl)) (fun _ _ _ h => h) (Or.inl ⟨by rfl, ?_⟩) ?_ ?_
                                  rotate_left
                                  ·intro w'
                                   go_simp
                                   with_reducible rfl
                                  rotate_left
                                  ·simp only [qa_]
                                   rfl
                                  refine pure_ (i := 20) (N := some 136) (v := ?_) (a' := ?_) #[Y,Y,Y,Y,Y,Y,Y,Y,Y,Y,Y,Y,Y,Y,Y,Y,Y,Y,Y,Y,Y,X,X,X,X,X,X,X,X,X,X] rfl rfl (any_of HT_.out (by kernel_rfl)) (fun _ _ _ h => h) (Or.inl ⟨by rfl, ?_⟩) ?_ ?_
                                  rotate_left
                                  ·intro w'
                                   go_simp
                                   with_reducible rfl
                                  rotate_left
                                  ·simp only [qa_]
                                   rfl
                                  refine pure_ (i := 22) (N := some 138) (v := ?_) (a' := ?_) #[Y,Y,Y,Y,Y,Y,Y,Y,Y,Y,Y,Y,Y,Y,Y,Y,Y,Y,Y,Y,Y,X,Y,X,X,X,X,X,X,X,X] rfl rfl (any_of HT_.out (by kernel_rfl)) (fun _ _ _ h => h) (Or.inl ⟨by rfl, ?_⟩) ?_ ?_
                                  rotate_left
                                  ·intro w'
                                   go_simp
                                   with_reducible rfl
                                  rotate_left
                                  ·simp only [qa_]
                                   rfl
                                  refine pure_ (i := 23) (N := some 139) (v := ?_) (a' := ?_) #[Y,Y,Y,Y,Y,Y,Y,Y,Y,Y,Y,Y,Y,Y,Y,Y,Y,Y,Y,Y,Y,X,Y,Y,X,X,X,X,X,X,X] rfl rfl (any_of HT_.out (by kernel_rfl)) (fun _ _ _ h => h) (Or.inl ⟨by rfl, ?_⟩) ?_ ?_
                                  rotate_left
                                  ·intro w'
                                   go_simp
                                   with_reducible rfl
                                  rotate_left
                                  ·simp only [qa_]
                                   rfl
                                  refine pure_ (i := 24) (N := some 140) (v := ?_) (a' := ?_) #[Y,Y,Y,Y,Y,Y,Y,Y,Y,Y,Y,Y,Y,Y,Y,Y,Y,Y,Y,Y,Y,X,Y,Y,Y,X,X,X,X,X,X] rfl rfl (any_of HT_.out (by kernel_rfl)) (fun _ _ _ h => h) (Or.inl ⟨by rfl, ?_⟩) ?_ ?_
                                  rotate_left
                                  ·intro w'
                                   go_simp
                                   with_reducible rfl
                                  rotate_left
                                  ·simp only [qa_]
                                   rfl
                                  refine pure_ (i := 25) (N := some 141) (v := ?_) (a' := ?_) #[Y,Y,Y,Y,Y,Y,Y,Y,Y,Y,Y,Y,Y,Y,Y,Y,Y,Y,Y,Y,Y,X,Y,Y,Y,Y,X,X,X,X,X] rfl rfl (any_of HT_.out (by kernel_rfl)) (fun _ _ _ h => h) (Or.inl ⟨by rfl, ?_⟩) ?_ ?_
                                  rotate_left
                                  ·intro w'
                                   go_simp
                                   with_reducible rfl
                                  rotate_left
                                  ·simp only [qa_]
                                   rfl
                                  refine pure_ (i := 27) (N := some 143) (v := ?_) (a' := ?_) #[Y,Y,Y,Y,Y,Y,Y,Y,Y,Y,Y,Y,Y,Y,Y,Y,Y,Y,Y,Y,Y,X,Y,Y,Y,Y,X,Y,X,X,X] rfl rfl (any_of HT_.out (by kernel_rfl)) (fun _ _ _ h => h) (Or.inl ⟨by rfl, ?_⟩) ?_ ?_
                                  rotate_left
                                  ·intro w'
                                   go_simp
                                   with_reducible rfl
                                  rotate_left
                                  ·simp only [qa_]
                                   rfl
                                  refine take_ (i := 21) (N := some 137) (v := ?_) (a' := ?_) #[Y,Y,Y,Y,Y,Y,Y,Y,Y,Y,Y,Y,Y,Y,Y,Y,Y,Y,Y,Y,Y,Y,Y,Y,Y,Y,X,Y,X,X,X] rfl rfl (take_ofW HT_.out HW_.out (by kernel_rfl)) (fun _ _ _ h => h) (Or.inl ⟨by rfl, ?_⟩) hHeld ?_ ?_
                                  rotate_left
                                  ·rintro w' ⟨s0, s1, s2, s3, s4, s5, s6, s7, s8, s9, s10, s11, s12, s13, s14, s15, s16, s17, s18, s19⟩
                                   go_simp
                                   with_reducible rfl
                                  rotate_left
                                  ·simp only [qa_]
                                   rfl
                                  refine take_ (i := 26) (N := some 142) (v := ?_) (a' := ?_) #[Y,Y,Y,Y,Y,Y,Y,Y,Y,Y,Y,Y,Y,Y,Y,Y,Y,Y,Y,Y,Y,Y,Y,Y,Y,Y,Y,Y,X,X,X] rfl rfl (take_ofW HT_.out HW_.out (by kernel_rfl)) (fun _ _ _ h => h) (Or.inl ⟨by rfl, ?_⟩) hHeld ?_ ?_
                                  rotate_left
                                  ·rintro w' ⟨s0, s1, s2, s3, s4, s5, s6, s7, s8, s9, s10, s11, s12, s13, s14, s15, s16, s17, s18, s19⟩
                                   go_simp
                                   with_reducible rfl
                                  rotate_left
                                  ·simp only [qa_]
                                   rfl
                                  refine pure_ (i := 28) (N := some 144) (v := ?_) (a' := ?_) #[Y,Y,Y,Y,Y,Y,Y,Y,Y,Y,Y,Y,Y,Y,Y,Y,Y,Y,Y,Y,Y,Y,Y,Y,Y,Y,Y,Y,Y,X,X] rfl rfl (any_of HT_.out (by kernel_rfl)) (fun _ _ _ h => h) (Or.inl ⟨by rfl, ?_⟩) ?_ ?_
                                  rotate_left
                                  ·intro w'
                                   go_simp
                                   with_reducible rfl
                                  rotate_left
                                  ·simp only [qa_]
                                   rfl
                                  refine pure_ (i := 29) (N := some 145) (v := ?_) (a' := ?_) #[Y,Y,Y,Y,Y,Y,Y,Y,Y,Y,Y,Y,Y,Y,Y,Y,Y,Y,Y,Y,Y,Y,Y,Y,Y,Y,Y,Y,Y,Y,X] rfl rfl (any_of HT_.out (by kernel_rfl)) (fun _ _ _ h => h) (Or.inl ⟨by rfl, ?_⟩) ?_ ?_
                                  rotate_left
                                  ·intro w'
                                   go_simp
                                   with_reducible rfl
                                  rotate_left
                                  ·simp only [qa_]
                                   rfl
                                  refine pure_ (i := 30) (N := some 146) (v := ?_) (a' := ?_) #[Y,Y,Y,Y,Y,Y,Y,Y,Y,Y,Y,Y,Y,Y,Y,Y,Y,Y,Y,Y,Y,Y,Y,Y,Y,Y,Y,Y,Y,Y,Y] rfl rfl (any_of HT_.out (by kernel_rfl)) (fun _ _ _ h => h) (Or.inl ⟨by rfl, ?_⟩) ?_ ?_
                                  rotate_left
                                  ·intro w'
                                   go_simp
                                   with_reducible rfl
                                  rotate_left
                                  ·simp only [qa_]
                                   rfl
                                  refine done_ (done_of HT_.out (by kernel_rfl)) ?_
                                  try go_wp2
                                  go_roundg k5
                                  case measure => have := HJ5.out; have := HJ26.out; have := HJ32.out; have := HJ44.out; have := HK5.out; omega
                                  case rel => exact ⟨(wrap64 (x105_5 + 1)), (by first | rfl | (simp; done) | (simp [*]; done)), H', ⟨by have := HJ5.out; have := HJ26.out; have := HJ32.out; have := HJ44.out; have := HK5.out; omega⟩, ⟨by (with_reducible repeat (first | apply Kd.R_alloc | apply Kd.R_drewN | apply Kd.R_drew)); exact Kd.R_mono HO_7.out (fun _ hk => hk.1)⟩, ⟨by (with_reducible repeat (first | apply Kd.R_alloc | apply Kd.R_drewN | apply Kd.R_drew)); exact Kd.R_mono HO_103.out (fun _ hk => hk.1)⟩, ⟨by repeat (first | (with_reducible first | exact HB.out | apply below_alloc | apply pw_below_drewN | apply below_drew1 | refine below_set ?_ GE506.out) | exact HB.out)⟩⟩
                                 ·rw [if_neg c85] at H
                                  have c85b0 : (((rd_T38 t500 x105_5).f4) == (wrap64 (((rd_T38 t494 x105_5).f4) + 0))) = false := beq_eq_false_iff_ne.mpr c85
                                  have c85b1 : (((rd_T38 t500 x105_5).f4) != (wrap64 (((rd_T38 t494 x105_5).f4) + 0))) = true := bne_iff_ne.mpr c85
                                  exact absurd H (by rw [HR_.out]; simp)
                                ·rw [if_neg c84] at H
                                 have c84b0 : (((rd_T38 t500 x105_5).f3) == (wrap64 (((rd_T38 t494 x105_5).f3) + 0))) = false := beq_eq_false_iff_ne.mpr c84
                                 have c84b1 : (((rd_T38 t500 x105_5).f3) != (wrap64 (((rd_T38 t494 x105_5).f3) + 0))) = true := bne_iff_ne.mpr c84
                                 exact absurd H (by rw [HR_.out]; simp)
                               ·replace c83 := Bool.eq_false_iff.mpr c83
                                subst c83
                                have H1 : (some false) = some r := by rw [if_neg (show ¬ (false = true) by decide)] at H; exact H
                                clear H
                                have H := H1
                                clear H1
                                exact absurd H (by rw [HR_.out]; simp)
                              ·rw [if_neg c81] at H
                               exact absurd H (by simp)
                            ·rw [if_neg c54] at H
                             exact absurd H (by simp)
                           ·rw [if_neg c53] at H
                            exact absurd H (by simp)
                          ·rw [if_neg c52] at H
                           have c52b0 : decide (x105_5 < (t500.length : Int)) = false := decide_eq_false c52
                           clear c52
                           obtain rfl := Option.some.inj H
                           go_wp2
                           go_ret
                           exact ⟨by first | rfl | (simp [errW_none, errW_some] <;> rfl) | (simp [*, errW_none, errW_some] <;> rfl), by repeat (first | (with_reducible first | exact HB.out | apply below_alloc | apply pw_below_drewN | apply below_drew1) | exact HB.out)⟩
                   ·rw [if_neg c43] at H
                    exact absurd H (by simp)
                  ·rw [if_neg c40] at H
                   exact absurd H (by simp)
                 ·rw [if_neg c39] at H
                  exact absurd H (by simp)
                ·rw [if_neg c38] at H
                 exact absurd H (by simp)
               ·rw [if_neg c37] at H
                exact absurd H (by simp)
              ·rw [if_neg c36] at H
               exact absurd H (by simp)
      ·rw [if_neg c25] at H
       have c25b0 : (t496 == 0) = false := beq_eq_false_iff_ne.mpr c25
       have c25b1 : (t496 != 0) = true := bne_iff_ne.mpr c25
       obtain rfl := Option.some.inj H
       go_wp2_with (first | ((with_reducible refine gate_callee (f := 13) rfl ?_); refine goesL_ (some 35) rfl rfl Tryz.func13 (by kernel_rfl) rfl #[.string a0] rfl (by (try simp only [List.map_toArray, List.map_cons, List.map_nil]); first | done | rfl | (simp only [List.length_drop, List.length_take]; rfl)) ?_; (with_reducible refine (lex_Tokens.calls a0 t494 t495 t496 _ A24.out ?side1).mono ?_); (case side1 => exact GL.below HG.out (by repeat (first | (with_reducible first | exact HB.out | apply below_alloc | apply pw_below_drewN | apply below_drew1) | exact HB.out))); rintro e w106 ⟨v497, rfl, ho0, hb⟩; refine ⟨_, rfl, ?_⟩; have n0_ := Aside0.mk (Kd.R_lower ho0 (below_size (by repeat (first | (with_reducible first | exact HB.out | apply below_alloc | apply pw_below_drewN | apply below_drew1) | exact HB.out)))); have n1_ := Aside0.mk (below_step (by repeat (first | (with_reducible first | exact HB.out | apply below_alloc | apply pw_below_drewN | apply below_drew1) | exact HB.out)) hb); clear HB; have HO498 := n0_; have HB := n1_; clear n0_ n1_; (try clear hb); (try clear hb2); (try clear hk); (try clear hi); (try clear ho0); obtain ⟨Ao107, co107, eo107⟩ := Kd.R_slice HO498.out; subst eo107))
       go_ret
       exact ⟨by first | rfl | (simp [errW_none, errW_some] <;> rfl) | (simp [*, errW_none, errW_some] <;> rfl), by repeat (first | (with_reducible first | exact HB.out | apply below_alloc | apply pw_below_drewN | apply below_drew1) | exact HB.out)⟩
 ·replace c5 := Bool.eq_false_iff.mpr c5
  subst c5
  have H1 : (some false) = some r := by rw [if_neg (show ¬ (false = true) by decide)] at H; exact H
  clear H
  have H := H1
  clear H1
  exact absurd H (by rw [HR_.out]; simp)
/-- THE ONE PURE STATEMENT of madrigallaw01_LexBlanks: yours. -/
def madrigallaw01_LexBlanks.Pure : Prop := ∀ (a0 : ByteArray) (a1 : ByteArray) (a2 : Int), a0.size ≤ 140737488351232 → a1.size ≤ 140737488351232 → (Lit.int .i64 a2).wf = true → ∃ k, madrigallaw01_LexBlanks.f k a0 a1 a2 = some true
theorem madrigallaw01_LexBlanks.walk (P : madrigallaw01_LexBlanks.Pure) (a0 : ByteArray) (a1 : ByteArray) (a2 : Int) (w : World) (w0 : a0.size ≤ 140737488351232) (w1 : a1.size ≤ 140737488351232) (w2 : (Lit.int .i64 a2).wf = true) (hG : GL w) :
  Calls Tryz.prog 5 #[.string a0, .string a1, .int .i64 a2] w fun e w' => e = .returned (.bool true) ∧ Below w.heap.size w w' := by
 obtain ⟨k, h⟩ := P a0 a1 a2 w0 w1 w2
 refine (madrigallaw01_LexBlanks.calls k a0 a1 a2 true rfl w h hG).mono ?_
 rintro e w' ⟨rfl, hd⟩
 exact ⟨rfl, hd⟩
end Go.Proofs.YtglgppkjgodlkaaGreatDoor.P
