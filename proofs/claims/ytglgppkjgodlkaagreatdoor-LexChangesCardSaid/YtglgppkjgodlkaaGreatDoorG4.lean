-- Printed by a program of this session (myprint.py, resplit.py), which drives the kit's printer; Lean checks every row.
import Derived.Test.YtglgppkjgodlkaaGreatDoorP0
import Derived.Test.YtglgppkjgodlkaaGreatDoorP1
namespace Go.Proofs.YtglgppkjgodlkaaGreatDoor.P
open Go.Proofs.YtglgppkjgodlkaaGreatDoorW.PrintLast Go.Proofs.YtglgppkjgodlkaaGreatDoorW.PrintMore Go.Proofs.YtglgppkjgodlkaaGreatDoorW.PrintWords Go.RowKit
attribute [local go_sem] max2_int min2_int max_two min_two max_three min_three max_four min_four   -- for this text's walks alone
set_option linter.unusedVariables false
set_option linter.unusedSimpArgs false
attribute [local go_sem high] eqA38

/-! ### madrigalref01_Blank: function 60 -/
def madrigalref01_Blank.f (a0 : Int) : Option (Bool) := if a0 = 32 then (some true) else (if a0 = 9 then (some true) else (if a0 = 10 then (some true) else (some (a0 == 13))))
set_option maxHeartbeats 8000000 in
set_option maxRecDepth 100000 in
theorem madrigalref01_Blank.calls (a0 : Int) (r : Bool) (w : World) (h : madrigalref01_Blank.f a0 = some r) :
  Calls Tryz.prog 60 #[.int .u8 a0] w fun e w' => e = .returned (.bool r) ∧ Drawn0 w w' := by
 have H : (if a0 = 32 then (some true) else (if a0 = 9 then (some true) else (if a0 = 10 then (some true) else (some (a0 == 13))))) = some r := h
 clear h
 by_cases c2 : a0 = 32
 ·rw [if_pos c2] at H
  have c2b0 : (a0 == 32) = true := beq_iff_eq.mpr c2
  have c2b1 : (a0 != 32) = false := bne_eq_false_iff_eq.mpr c2
  clear c2
  obtain rfl := Option.some.inj H
  go_enter Tryz.func60, Tryz.ntmps60
  go_wp2
  go_ret
  exact ⟨by first | rfl | (simp; done) | (simp [*]; done), by repeat (first | exact Drawn0.refl _ | apply Drawn0.step)⟩
 ·rw [if_neg c2] at H
  have c2b0 : (a0 == 32) = false := beq_eq_false_iff_ne.mpr c2
  have c2b1 : (a0 != 32) = true := bne_iff_ne.mpr c2
  by_cases c3 : a0 = 9
  ·rw [if_pos c3] at H
   have c3b0 : (a0 == 9) = true := beq_iff_eq.mpr c3
   have c3b1 : (a0 != 9) = false := bne_eq_false_iff_eq.mpr c3
   clear c3
   obtain rfl := Option.some.inj H
   go_enter Tryz.func60, Tryz.ntmps60
   go_wp2
   go_ret
   exact ⟨by first | rfl | (simp; done) | (simp [*]; done), by repeat (first | exact Drawn0.refl _ | apply Drawn0.step)⟩
  ·rw [if_neg c3] at H
   have c3b0 : (a0 == 9) = false := beq_eq_false_iff_ne.mpr c3
   have c3b1 : (a0 != 9) = true := bne_iff_ne.mpr c3
   by_cases c4 : a0 = 10
   ·rw [if_pos c4] at H
    have c4b0 : (a0 == 10) = true := beq_iff_eq.mpr c4
    have c4b1 : (a0 != 10) = false := bne_eq_false_iff_eq.mpr c4
    clear c4
    obtain rfl := Option.some.inj H
    go_enter Tryz.func60, Tryz.ntmps60
    go_wp2
    go_ret
    exact ⟨by first | rfl | (simp; done) | (simp [*]; done), by repeat (first | exact Drawn0.refl _ | apply Drawn0.step)⟩
   ·rw [if_neg c4] at H
    have c4b0 : (a0 == 10) = false := beq_eq_false_iff_ne.mpr c4
    have c4b1 : (a0 != 10) = true := bne_iff_ne.mpr c4
    obtain rfl := Option.some.inj H
    go_enter Tryz.func60, Tryz.ntmps60
    go_wp2
    go_ret
    exact ⟨by first | rfl | (simp; done) | (simp [*]; done), by repeat (first | exact Drawn0.refl _ | apply Drawn0.step)⟩

/-! ### madrigalref01_begins: function 65 -/
def madrigalref01_begins.f (a0 : ByteArray) (a1 : Int) (a2 : ByteArray) : Option (Bool) := if (wrap64 ((a0.size : Int) - a1)) ≥ (a2.size : Int) then (if 0 ≤ a1 then (if a1 ≤ (wrap64 (a1 + (a2.size : Int))) then (if (wrap64 (a1 + (a2.size : Int))) ≤ (a0.size : Int) then (some ((a0.extract (a1 : Int).toNat ((wrap64 (a1 + (a2.size : Int))) : Int).toNat).toList == a2.toList)) else (none)) else (none)) else (none)) else (some false)
set_option maxHeartbeats 8000000 in
set_option maxRecDepth 100000 in
theorem madrigalref01_begins.calls (a0 : ByteArray) (a1 : Int) (a2 : ByteArray) (r : Bool) (w : World) (h : madrigalref01_begins.f a0 a1 a2 = some r) :
  Calls Tryz.prog 65 #[.string a0, .int .i64 a1, .string a2] w fun e w' => e = .returned (.bool r) ∧ Drawn0 w w' := by
 have H : (if (wrap64 ((a0.size : Int) - a1)) ≥ (a2.size : Int) then (if 0 ≤ a1 then (if a1 ≤ (wrap64 (a1 + (a2.size : Int))) then (if (wrap64 (a1 + (a2.size : Int))) ≤ (a0.size : Int) then (some ((a0.extract (a1 : Int).toNat ((wrap64 (a1 + (a2.size : Int))) : Int).toNat).toList == a2.toList)) else (none)) else (none)) else (none)) else (some false)) = some r := h
 clear h
 by_cases c4 : (wrap64 ((a0.size : Int) - a1)) ≥ (a2.size : Int)
 ·rw [if_pos c4] at H
  have c4b0 : decide ((a2.size : Int) ≤ (wrap64 ((a0.size : Int) - a1))) = true := decide_eq_true c4
  clear c4
  by_cases c5 : 0 ≤ a1
  ·rw [if_pos c5] at H
   have c5b0 := eq_true c5
   have c5b1 : decide (0 ≤ a1) = true := decide_eq_true c5
   clear c5
   by_cases c6 : a1 ≤ (wrap64 (a1 + (a2.size : Int)))
   ·rw [if_pos c6] at H
    have c6b0 := eq_true c6
    have c6b1 : decide (a1 ≤ (wrap64 (a1 + (a2.size : Int)))) = true := decide_eq_true c6
    by_cases c7 : (wrap64 (a1 + (a2.size : Int))) ≤ (a0.size : Int)
    ·rw [if_pos c7] at H
     have c7b0 := eq_true c7
     have c7b1 : decide ((wrap64 (a1 + (a2.size : Int))) ≤ (a0.size : Int)) = true := decide_eq_true c7
     obtain rfl := Option.some.inj H
     go_enter Tryz.func65, Tryz.ntmps65
     go_wp2
     go_ret
     exact ⟨by first | rfl | (simp; done) | (simp [*]; done), by repeat (first | exact Drawn0.refl _ | apply Drawn0.step)⟩
    ·rw [if_neg c7] at H
     exact absurd H (by simp)
   ·rw [if_neg c6] at H
    exact absurd H (by simp)
  ·rw [if_neg c5] at H
   exact absurd H (by simp)
 ·rw [if_neg c4] at H
  have c4b0 : decide ((a2.size : Int) ≤ (wrap64 ((a0.size : Int) - a1))) = false := decide_eq_false c4
  clear c4
  obtain rfl := Option.some.inj H
  go_enter Tryz.func65, Tryz.ntmps65
  go_wp2
  go_ret
  exact ⟨by first | rfl | (simp; done) | (simp [*]; done), by repeat (first | exact Drawn0.refl _ | apply Drawn0.step)⟩

/-! ### madrigalref01_comment: function 61 -/
def madrigalref01_comment.l0 : Nat → ByteArray → Int → Int → Option (Int)
 | 0, _, _, _ => none
 | k + 1, x0, x1, x5 => if x1 < (x0.size : Int) then ((madrigalref01_begins.f x0 x1 (⟨#[40, 42]⟩ : ByteArray)).bind fun t152 => (if t152 = true then (if (wrap64 (x5 + 1)) = 0 then (some (wrap64 (x1 + 2))) else (madrigalref01_comment.l0 k x0 (wrap64 (x1 + 2)) (wrap64 (x5 + 1)))) else ((madrigalref01_begins.f x0 x1 (⟨#[42, 41]⟩ : ByteArray)).bind fun t153 => (if t153 = true then (if (wrap64 (x5 - 1)) = 0 then (some (wrap64 (x1 + 2))) else (madrigalref01_comment.l0 k x0 (wrap64 (x1 + 2)) (wrap64 (x5 - 1)))) else (if x5 = 0 then (some (wrap64 (x1 + 1))) else (madrigalref01_comment.l0 k x0 (wrap64 (x1 + 1)) x5)))))) else (some (-1))
def madrigalref01_comment.f (k : Nat) (a0 : ByteArray) (a1 : Int) : Option (Int) := madrigalref01_comment.l0 k a0 a1 0
theorem madrigalref01_comment.mono_l : ∀ k, (∀ y0 y1 y2, LeO (madrigalref01_comment.l0 k y0 y1 y2) (madrigalref01_comment.l0 (k + 1) y0 y1 y2))
 | 0 => fun _ _ _ r h => by simp [madrigalref01_comment.l0] at h
 | k + 1 => by
  have ih0 := madrigalref01_comment.mono_l k
  ·intro y0 y1 y2
   unfold madrigalref01_comment.l0
   repeat' first
   | (with_reducible exact ih0 _ _ _)
   | (with_reducible exact LeO.refl _)
   | (with_reducible exact LeO.none _)
   | (with_reducible refine LeO.ite ?_ ?_)
   | (with_reducible refine LeO.bind ?_ (fun _ => ?_))
   | exact ih0 _ _ _
   | exact LeO.none _
   | refine LeO.ite ?_ ?_
   | refine LeO.bind ?_ (fun _ => ?_)
theorem madrigalref01_comment.mono : ∀ a0 a1 k, LeO (madrigalref01_comment.f k a0 a1) (madrigalref01_comment.f (k + 1) a0 a1) := by
 intro a0 a1 k
 have ih0 := madrigalref01_comment.mono_l k
 unfold madrigalref01_comment.f
 repeat' first
   | (with_reducible exact ih0 _ _ _)
   | (with_reducible exact LeO.refl _)
   | (with_reducible exact LeO.none _)
   | (with_reducible refine LeO.ite ?_ ?_)
   | (with_reducible refine LeO.bind ?_ (fun _ => ?_))
   | exact ih0 _ _ _
   | exact LeO.none _
   | refine LeO.ite ?_ ?_
   | refine LeO.bind ?_ (fun _ => ?_)
set_option maxHeartbeats 8000000 in
set_option maxRecDepth 100000 in
theorem madrigalref01_comment.calls (k : Nat) (a0 : ByteArray) (a1 : Int) (r : Int) (w : World) (h : madrigalref01_comment.f k a0 a1 = some r) :
  Calls Tryz.prog 61 #[.string a0, .int .i64 a1] w fun e w' => e = .returned (.int .i64 r) ∧ Drawn0 w w' := by
 have H : (madrigalref01_comment.l0 k a0 a1 0) = some r := h
 clear h
 have H' := Aside0.mk H
 clear H
 go_enter Tryz.func61, Tryz.ntmps61
 go_wp2
 go_loopg [1, 5] k (fun kq v1 v5 w' => ∃ (x1_1 : Int) (x5_1 : Int), v1 = .int .i64 x1_1 ∧ v5 = .int .i64 x5_1 ∧ Aside0 (madrigalref01_comment.l0 kq a0 x1_1 x5_1 = some r) ∧ Aside0 (kq ≤ k) ∧ Drawn0 w w')
 case atStart => exact ⟨(a1), (0), (by first | rfl | (simp; done) | (simp [*]; done)), (by first | rfl | (simp; done) | (simp [*]; done)), H', ⟨Nat.le_refl _⟩, by repeat (first | exact Drawn0.refl _ | apply Drawn0.step)⟩
 case round =>
  clear H'
  try clear p2
  obtain ⟨x1_1, x5_1, rfl, rfl, HA, HK1, ⟨m1, rfl⟩⟩ := hrel
  cases gk with
  | zero => exact absurd HA.out (by simp [madrigalref01_comment.l0])
  | succ k1 =>
   have H := HA.out
   clear HA
   simp only [madrigalref01_comment.l0] at H
   by_cases c3 : x1_1 < (a0.size : Int)
   ·rw [if_pos c3] at H
    have c3b0 : decide (x1_1 < (a0.size : Int)) = true := decide_eq_true c3
    clear c3
    replace H := Option.bind_eq_some_iff.mp H
    obtain ⟨t152, A40, H⟩ := H
    replace H : (if t152 = true then (if (wrap64 (x5_1 + 1)) = 0 then (some (wrap64 (x1_1 + 2))) else (madrigalref01_comment.l0 k1 a0 (wrap64 (x1_1 + 2)) (wrap64 (x5_1 + 1)))) else ((madrigalref01_begins.f a0 x1_1 (⟨#[42, 41]⟩ : ByteArray)).bind fun t153 => (if t153 = true then (if (wrap64 (x5_1 - 1)) = 0 then (some (wrap64 (x1_1 + 2))) else (madrigalref01_comment.l0 k1 a0 (wrap64 (x1_1 + 2)) (wrap64 (x5_1 - 1)))) else (if x5_1 = 0 then (some (wrap64 (x1_1 + 1))) else (madrigalref01_comment.l0 k1 a0 (wrap64 (x1_1 + 1)) x5_1))))) = some r := H
    have A4 := Aside0.mk A40
    clear A40
    by_cases c5 : t152 = true
    ·subst c5
     have H1 : (if (wrap64 (x5_1 + 1)) = 0 then (some (wrap64 (x1_1 + 2))) else (madrigalref01_comment.l0 k1 a0 (wrap64 (x1_1 + 2)) (wrap64 (x5_1 + 1)))) = some r := by rw [if_pos rfl] at H; exact H
     clear H
     have H := H1
     clear H1
     by_cases c6 : (wrap64 (x5_1 + 1)) = 0
     ·rw [if_pos c6] at H
      have c6b0 : ((wrap64 (x5_1 + 1)) == 0) = true := beq_iff_eq.mpr c6
      have c6b1 : ((wrap64 (x5_1 + 1)) != 0) = false := bne_eq_false_iff_eq.mpr c6
      clear c6
      obtain rfl := Option.some.inj H
      go_wp2_with (first | ((with_reducible refine gate_callee (f := 65) rfl ?_); refine goesL_ (some 12) rfl rfl Tryz.func65 (by kernel_rfl) rfl #[.string a0, .int .i64 x1_1, .string (⟨#[40, 42]⟩ : ByteArray)] rfl (by (try simp only [List.map_toArray, List.map_cons, List.map_nil]); first | done | rfl | (simp only [List.length_drop, List.length_take]; rfl)) ?_; (with_reducible refine (madrigalref01_begins.calls a0 x1_1 (⟨#[40, 42]⟩ : ByteArray) true _ A4.out).mono ?_); rintro e w' ⟨rfl, ⟨nd, rfl⟩⟩; refine ⟨_, rfl, ?_⟩))
      go_ret
      exact ⟨by first | rfl | (simp; done) | (simp [*]; done), by repeat (first | exact Drawn0.refl _ | apply Drawn0.step)⟩
     ·rw [if_neg c6] at H
      have c6b0 : ((wrap64 (x5_1 + 1)) == 0) = false := beq_eq_false_iff_ne.mpr c6
      have c6b1 : ((wrap64 (x5_1 + 1)) != 0) = true := bne_iff_ne.mpr c6
      have H' := Aside0.mk H
      clear H
      go_wp2_with (first | ((with_reducible refine gate_callee (f := 65) rfl ?_); refine goesL_ (some 12) rfl rfl Tryz.func65 (by kernel_rfl) rfl #[.string a0, .int .i64 x1_1, .string (⟨#[40, 42]⟩ : ByteArray)] rfl (by (try simp only [List.map_toArray, List.map_cons, List.map_nil]); first | done | rfl | (simp only [List.length_drop, List.length_take]; rfl)) ?_; (with_reducible refine (madrigalref01_begins.calls a0 x1_1 (⟨#[40, 42]⟩ : ByteArray) true _ A4.out).mono ?_); rintro e w' ⟨rfl, ⟨nd, rfl⟩⟩; refine ⟨_, rfl, ?_⟩))
      go_roundg k1
      case measure => have := HK1.out; omega
      case rel => exact ⟨(wrap64 (x1_1 + 2)), (wrap64 (x5_1 + 1)), (by first | rfl | (simp; done) | (simp [*]; done)), (by first | rfl | (simp; done) | (simp [*]; done)), H', ⟨by have := HK1.out; omega⟩, by repeat (first | exact Drawn0.refl _ | apply Drawn0.step)⟩
    ·replace c5 := Bool.eq_false_iff.mpr c5
     subst c5
     have H1 : ((madrigalref01_begins.f a0 x1_1 (⟨#[42, 41]⟩ : ByteArray)).bind fun t153 => (if t153 = true then (if (wrap64 (x5_1 - 1)) = 0 then (some (wrap64 (x1_1 + 2))) else (madrigalref01_comment.l0 k1 a0 (wrap64 (x1_1 + 2)) (wrap64 (x5_1 - 1)))) else (if x5_1 = 0 then (some (wrap64 (x1_1 + 1))) else (madrigalref01_comment.l0 k1 a0 (wrap64 (x1_1 + 1)) x5_1)))) = some r := by rw [if_neg (show ¬ (false = true) by decide)] at H; exact H
     clear H
     have H := H1
     clear H1
     replace H := Option.bind_eq_some_iff.mp H
     obtain ⟨t153, A70, H⟩ := H
     replace H : (if t153 = true then (if (wrap64 (x5_1 - 1)) = 0 then (some (wrap64 (x1_1 + 2))) else (madrigalref01_comment.l0 k1 a0 (wrap64 (x1_1 + 2)) (wrap64 (x5_1 - 1)))) else (if x5_1 = 0 then (some (wrap64 (x1_1 + 1))) else (madrigalref01_comment.l0 k1 a0 (wrap64 (x1_1 + 1)) x5_1))) = some r := H
     have A7 := Aside0.mk A70
     clear A70
     by_cases c8 : t153 = true
     ·subst c8
      have H1 : (if (wrap64 (x5_1 - 1)) = 0 then (some (wrap64 (x1_1 + 2))) else (madrigalref01_comment.l0 k1 a0 (wrap64 (x1_1 + 2)) (wrap64 (x5_1 - 1)))) = some r := by rw [if_pos rfl] at H; exact H
      clear H
      have H := H1
      clear H1
      by_cases c9 : (wrap64 (x5_1 - 1)) = 0
      ·rw [if_pos c9] at H
       have c9b0 : ((wrap64 (x5_1 - 1)) == 0) = true := beq_iff_eq.mpr c9
       have c9b1 : ((wrap64 (x5_1 - 1)) != 0) = false := bne_eq_false_iff_eq.mpr c9
       clear c9
       obtain rfl := Option.some.inj H
       go_wp2_with (first | ((with_reducible refine gate_callee (f := 65) rfl ?_); refine goesL_ (some 12) rfl rfl Tryz.func65 (by kernel_rfl) rfl #[.string a0, .int .i64 x1_1, .string (⟨#[40, 42]⟩ : ByteArray)] rfl (by (try simp only [List.map_toArray, List.map_cons, List.map_nil]); first | done | rfl | (simp only [List.length_drop, List.length_take]; rfl)) ?_; (with_reducible refine (madrigalref01_begins.calls a0 x1_1 (⟨#[40, 42]⟩ : ByteArray) false _ A4.out).mono ?_); rintro e w' ⟨rfl, ⟨nd, rfl⟩⟩; refine ⟨_, rfl, ?_⟩) | ((with_reducible refine gate_callee (f := 65) rfl ?_); refine goesL_ (some 19) rfl rfl Tryz.func65 (by kernel_rfl) rfl #[.string a0, .int .i64 x1_1, .string (⟨#[42, 41]⟩ : ByteArray)] rfl (by (try simp only [List.map_toArray, List.map_cons, List.map_nil]); first | done | rfl | (simp only [List.length_drop, List.length_take]; rfl)) ?_; (with_reducible refine (madrigalref01_begins.calls a0 x1_1 (⟨#[42, 41]⟩ : ByteArray) true _ A7.out).mono ?_); rintro e w' ⟨rfl, ⟨nd, rfl⟩⟩; refine ⟨_, rfl, ?_⟩))
       go_ret
       exact ⟨by first | rfl | (simp; done) | (simp [*]; done), by repeat (first | exact Drawn0.refl _ | apply Drawn0.step)⟩
      ·rw [if_neg c9] at H
       have c9b0 : ((wrap64 (x5_1 - 1)) == 0) = false := beq_eq_false_iff_ne.mpr c9
       have c9b1 : ((wrap64 (x5_1 - 1)) != 0) = true := bne_iff_ne.mpr c9
       have H' := Aside0.mk H
       clear H
       go_wp2_with (first | ((with_reducible refine gate_callee (f := 65) rfl ?_); refine goesL_ (some 12) rfl rfl Tryz.func65 (by kernel_rfl) rfl #[.string a0, .int .i64 x1_1, .string (⟨#[40, 42]⟩ : ByteArray)] rfl (by (try simp only [List.map_toArray, List.map_cons, List.map_nil]); first | done | rfl | (simp only [List.length_drop, List.length_take]; rfl)) ?_; (with_reducible refine (madrigalref01_begins.calls a0 x1_1 (⟨#[40, 42]⟩ : ByteArray) false _ A4.out).mono ?_); rintro e w' ⟨rfl, ⟨nd, rfl⟩⟩; refine ⟨_, rfl, ?_⟩) | ((with_reducible refine gate_callee (f := 65) rfl ?_); refine goesL_ (some 19) rfl rfl Tryz.func65 (by kernel_rfl) rfl #[.string a0, .int .i64 x1_1, .string (⟨#[42, 41]⟩ : ByteArray)] rfl (by (try simp only [List.map_toArray, List.map_cons, List.map_nil]); first | done | rfl | (simp only [List.length_drop, List.length_take]; rfl)) ?_; (with_reducible refine (madrigalref01_begins.calls a0 x1_1 (⟨#[42, 41]⟩ : ByteArray) true _ A7.out).mono ?_); rintro e w' ⟨rfl, ⟨nd, rfl⟩⟩; refine ⟨_, rfl, ?_⟩))
       go_roundg k1
       case measure => have := HK1.out; omega
       case rel => exact ⟨(wrap64 (x1_1 + 2)), (wrap64 (x5_1 - 1)), (by first | rfl | (simp; done) | (simp [*]; done)), (by first | rfl | (simp; done) | (simp [*]; done)), H', ⟨by have := HK1.out; omega⟩, by repeat (first | exact Drawn0.refl _ | apply Drawn0.step)⟩
     ·replace c8 := Bool.eq_false_iff.mpr c8
      subst c8
      have H1 : (if x5_1 = 0 then (some (wrap64 (x1_1 + 1))) else (madrigalref01_comment.l0 k1 a0 (wrap64 (x1_1 + 1)) x5_1)) = some r := by rw [if_neg (show ¬ (false = true) by decide)] at H; exact H
      clear H
      have H := H1
      clear H1
      by_cases c10 : x5_1 = 0
      ·rw [if_pos c10] at H
       have c10b0 : (x5_1 == 0) = true := beq_iff_eq.mpr c10
       have c10b1 : (x5_1 != 0) = false := bne_eq_false_iff_eq.mpr c10
       clear c10
       obtain rfl := Option.some.inj H
       go_wp2_with (first | ((with_reducible refine gate_callee (f := 65) rfl ?_); refine goesL_ (some 12) rfl rfl Tryz.func65 (by kernel_rfl) rfl #[.string a0, .int .i64 x1_1, .string (⟨#[40, 42]⟩ : ByteArray)] rfl (by (try simp only [List.map_toArray, List.map_cons, List.map_nil]); first | done | rfl | (simp only [List.length_drop, List.length_take]; rfl)) ?_; (with_reducible refine (madrigalref01_begins.calls a0 x1_1 (⟨#[40, 42]⟩ : ByteArray) false _ A4.out).mono ?_); rintro e w' ⟨rfl, ⟨nd, rfl⟩⟩; refine ⟨_, rfl, ?_⟩) | ((with_reducible refine gate_callee (f := 65) rfl ?_); refine goesL_ (some 19) rfl rfl Tryz.func65 (by kernel_rfl) rfl #[.string a0, .int .i64 x1_1, .string (⟨#[42, 41]⟩ : ByteArray)] rfl (by (try simp only [List.map_toArray, List.map_cons, List.map_nil]); first | done | rfl | (simp only [List.length_drop, List.length_take]; rfl)) ?_; (with_reducible refine (madrigalref01_begins.calls a0 x1_1 (⟨#[42, 41]⟩ : ByteArray) false _ A7.out).mono ?_); rintro e w' ⟨rfl, ⟨nd, rfl⟩⟩; refine ⟨_, rfl, ?_⟩))
       go_ret
       exact ⟨by first | rfl | (simp; done) | (simp [*]; done), by repeat (first | exact Drawn0.refl _ | apply Drawn0.step)⟩
      ·rw [if_neg c10] at H
       have c10b0 : (x5_1 == 0) = false := beq_eq_false_iff_ne.mpr c10
       have c10b1 : (x5_1 != 0) = true := bne_iff_ne.mpr c10
       have H' := Aside0.mk H
       clear H
       go_wp2_with (first | ((with_reducible refine gate_callee (f := 65) rfl ?_); refine goesL_ (some 12) rfl rfl Tryz.func65 (by kernel_rfl) rfl #[.string a0, .int .i64 x1_1, .string (⟨#[40, 42]⟩ : ByteArray)] rfl (by (try simp only [List.map_toArray, List.map_cons, List.map_nil]); first | done | rfl | (simp only [List.length_drop, List.length_take]; rfl)) ?_; (with_reducible refine (madrigalref01_begins.calls a0 x1_1 (⟨#[40, 42]⟩ : ByteArray) false _ A4.out).mono ?_); rintro e w' ⟨rfl, ⟨nd, rfl⟩⟩; refine ⟨_, rfl, ?_⟩) | ((with_reducible refine gate_callee (f := 65) rfl ?_); refine goesL_ (some 19) rfl rfl Tryz.func65 (by kernel_rfl) rfl #[.string a0, .int .i64 x1_1, .string (⟨#[42, 41]⟩ : ByteArray)] rfl (by (try simp only [List.map_toArray, List.map_cons, List.map_nil]); first | done | rfl | (simp only [List.length_drop, List.length_take]; rfl)) ?_; (with_reducible refine (madrigalref01_begins.calls a0 x1_1 (⟨#[42, 41]⟩ : ByteArray) false _ A7.out).mono ?_); rintro e w' ⟨rfl, ⟨nd, rfl⟩⟩; refine ⟨_, rfl, ?_⟩))
       go_roundg k1
       case measure => have := HK1.out; omega
       case rel => exact ⟨(wrap64 (x1_1 + 1)), (x5_1), (by first | rfl | (simp; done) | (simp [*]; done)), (by first | rfl | (simp; done) | (simp [*]; done)), H', ⟨by have := HK1.out; omega⟩, by repeat (first | exact Drawn0.refl _ | apply Drawn0.step)⟩
   ·rw [if_neg c3] at H
    have c3b0 : decide (x1_1 < (a0.size : Int)) = false := decide_eq_false c3
    clear c3
    obtain rfl := Option.some.inj H
    go_wp2
    go_ret
    exact ⟨by first | rfl | (simp; done) | (simp [*]; done), by repeat (first | exact Drawn0.refl _ | apply Drawn0.step)⟩

/-! ### madrigalref01_Skip: function 46 -/
def madrigalref01_Skip.l0 : Nat → ByteArray → Int → Option (Int × Bool)
 | 0, _, _ => none
 | k + 1, x0, x1 => if x1 < (x0.size : Int) then (if 0 ≤ x1 then ((madrigalref01_Blank.f (bt x0 x1)).bind fun t154 => (if t154 = true then (madrigalref01_Skip.l0 k x0 (wrap64 (x1 + 1))) else ((madrigalref01_begins.f x0 x1 (⟨#[40, 42]⟩ : ByteArray)).bind fun t155 => (if t155 = true then ((madrigalref01_comment.f k x0 x1).bind fun t156 => (if t156 < 0 then (some (x1, false)) else (madrigalref01_Skip.l0 k x0 t156))) else (some (x1, true)))))) else (none)) else (some (x1, true))
def madrigalref01_Skip.f (k : Nat) (a0 : ByteArray) (a1 : Int) : Option (Int × Bool) := madrigalref01_Skip.l0 k a0 a1
theorem madrigalref01_Skip.mono_l : ∀ k, (∀ y0 y1, LeO (madrigalref01_Skip.l0 k y0 y1) (madrigalref01_Skip.l0 (k + 1) y0 y1))
 | 0 => fun _ _ r h => by simp [madrigalref01_Skip.l0] at h
 | k + 1 => by
  have ih0 := madrigalref01_Skip.mono_l k
  ·intro y0 y1
   unfold madrigalref01_Skip.l0
   repeat' first
   | (with_reducible exact ih0 _ _)
   | (with_reducible exact madrigalref01_comment.mono _ _ _)
   | (with_reducible exact LeO.refl _)
   | (with_reducible exact LeO.none _)
   | (with_reducible refine LeO.ite ?_ ?_)
   | (with_reducible refine LeO.bind ?_ (fun _ => ?_))
   | exact ih0 _ _
   | exact madrigalref01_comment.mono _ _ _
   | exact LeO.none _
   | refine LeO.ite ?_ ?_
   | refine LeO.bind ?_ (fun _ => ?_)
theorem madrigalref01_Skip.mono : ∀ a0 a1 k, LeO (madrigalref01_Skip.f k a0 a1) (madrigalref01_Skip.f (k + 1) a0 a1) := by
 intro a0 a1 k
 have ih0 := madrigalref01_Skip.mono_l k
 unfold madrigalref01_Skip.f
 repeat' first
   | (with_reducible exact ih0 _ _)
   | (with_reducible exact madrigalref01_comment.mono _ _ _)
   | (with_reducible exact LeO.refl _)
   | (with_reducible exact LeO.none _)
   | (with_reducible refine LeO.ite ?_ ?_)
   | (with_reducible refine LeO.bind ?_ (fun _ => ?_))
   | exact ih0 _ _
   | exact madrigalref01_comment.mono _ _ _
   | exact LeO.none _
   | refine LeO.ite ?_ ?_
   | refine LeO.bind ?_ (fun _ => ?_)
set_option maxHeartbeats 8000000 in
set_option maxRecDepth 100000 in
theorem madrigalref01_Skip.calls (k : Nat) (a0 : ByteArray) (a1 : Int) (r1 : Int) (r2 : Bool) (w : World) (h : madrigalref01_Skip.f k a0 a1 = some (r1, r2)) :
  Calls Tryz.prog 46 #[.string a0, .int .i64 a1] w fun e w' => e = .returned (.tuple #[.int .i64 r1, .bool r2]) ∧ Drawn0 w w' := by
 have H : (madrigalref01_Skip.l0 k a0 a1) = some (r1, r2) := h
 clear h
 have H' := Aside0.mk H
 clear H
 go_enter Tryz.func46, Tryz.ntmps46
 go_wp2
 go_loopg [1] k (fun kq v1 w' => ∃ (x1_1 : Int), v1 = .int .i64 x1_1 ∧ Aside0 (madrigalref01_Skip.l0 kq a0 x1_1 = some (r1, r2)) ∧ Aside0 (kq ≤ k) ∧ Drawn0 w w')
 case atStart => exact ⟨(a1), (by first | rfl | (simp; done) | (simp [*]; done)), H', ⟨Nat.le_refl _⟩, by repeat (first | exact Drawn0.refl _ | apply Drawn0.step)⟩
 case round =>
  clear H'
  try clear p2
  obtain ⟨x1_1, rfl, HA, HK1, ⟨m1, rfl⟩⟩ := hrel
  cases gk with
  | zero => exact absurd HA.out (by simp [madrigalref01_Skip.l0])
  | succ k1 =>
   have H := HA.out
   clear HA
   simp only [madrigalref01_Skip.l0] at H
   by_cases c3 : x1_1 < (a0.size : Int)
   ·rw [if_pos c3] at H
    have c3b0 : decide (x1_1 < (a0.size : Int)) = true := decide_eq_true c3
    clear c3
    by_cases c4 : 0 ≤ x1_1
    ·rw [if_pos c4] at H
     have c4b0 : decide (0 ≤ x1_1) = true := decide_eq_true c4
     clear c4
     replace H := Option.bind_eq_some_iff.mp H
     obtain ⟨t154, A60, H⟩ := H
     replace H : (if t154 = true then (madrigalref01_Skip.l0 k1 a0 (wrap64 (x1_1 + 1))) else ((madrigalref01_begins.f a0 x1_1 (⟨#[40, 42]⟩ : ByteArray)).bind fun t155 => (if t155 = true then ((madrigalref01_comment.f k1 a0 x1_1).bind fun t156 => (if t156 < 0 then (some (x1_1, false)) else (madrigalref01_Skip.l0 k1 a0 t156))) else (some (x1_1, true))))) = some (r1, r2) := H
     have A6 := Aside0.mk A60
     clear A60
     by_cases c7 : t154 = true
     ·subst c7
      have H1 : (madrigalref01_Skip.l0 k1 a0 (wrap64 (x1_1 + 1))) = some (r1, r2) := by rw [if_pos rfl] at H; exact H
      clear H
      have H := H1
      clear H1
      have H' := Aside0.mk H
      clear H
      have p5 : 0 ≤ (x1_1 : Int) := of_decide_eq_true (by first | (with_reducible assumption) | assumption)
      have q5 : x1_1 < (a0.size : Int) := of_decide_eq_true (by first | (with_reducible assumption) | assumption)
      have hx5 := bt_at a0 x1_1
      replace p5 := eq_true p5
      replace q5 := eq_true q5
      go_wp2_with (first | ((with_reducible refine gate_callee (f := 60) rfl ?_); refine goesL_ (some 14) rfl rfl Tryz.func60 (by kernel_rfl) rfl #[.int .u8 (bt a0 x1_1)] rfl (by (try simp only [List.map_toArray, List.map_cons, List.map_nil]); first | done | rfl | (simp only [List.length_drop, List.length_take]; rfl)) ?_; (with_reducible refine (madrigalref01_Blank.calls (bt a0 x1_1) true _ A6.out).mono ?_); rintro e w' ⟨rfl, ⟨nd, rfl⟩⟩; refine ⟨_, rfl, ?_⟩))
      go_roundg k1
      case measure => have := HK1.out; omega
      case rel => exact ⟨(wrap64 (x1_1 + 1)), (by first | rfl | (simp; done) | (simp [*]; done)), H', ⟨by have := HK1.out; omega⟩, by repeat (first | exact Drawn0.refl _ | apply Drawn0.step)⟩
     ·replace c7 := Bool.eq_false_iff.mpr c7
      subst c7
      have H1 : ((madrigalref01_begins.f a0 x1_1 (⟨#[40, 42]⟩ : ByteArray)).bind fun t155 => (if t155 = true then ((madrigalref01_comment.f k1 a0 x1_1).bind fun t156 => (if t156 < 0 then (some (x1_1, false)) else (madrigalref01_Skip.l0 k1 a0 t156))) else (some (x1_1, true)))) = some (r1, r2) := by rw [if_neg (show ¬ (false = true) by decide)] at H; exact H
      clear H
      have H := H1
      clear H1
      replace H := Option.bind_eq_some_iff.mp H
      obtain ⟨t155, A80, H⟩ := H
      replace H : (if t155 = true then ((madrigalref01_comment.f k1 a0 x1_1).bind fun t156 => (if t156 < 0 then (some (x1_1, false)) else (madrigalref01_Skip.l0 k1 a0 t156))) else (some (x1_1, true))) = some (r1, r2) := H
      have A8 := Aside0.mk A80
      clear A80
      by_cases c9 : t155 = true
      ·subst c9
       have H1 : ((madrigalref01_comment.f k1 a0 x1_1).bind fun t156 => (if t156 < 0 then (some (x1_1, false)) else (madrigalref01_Skip.l0 k1 a0 t156))) = some (r1, r2) := by rw [if_pos rfl] at H; exact H
       clear H
       have H := H1
       clear H1
       replace H := Option.bind_eq_some_iff.mp H
       obtain ⟨t156, A100, H⟩ := H
       replace H : (if t156 < 0 then (some (x1_1, false)) else (madrigalref01_Skip.l0 k1 a0 t156)) = some (r1, r2) := H
       have A10 := Aside0.mk A100
       clear A100
       by_cases c11 : t156 < 0
       ·rw [if_pos c11] at H
        have c11b0 : decide (t156 < 0) = true := decide_eq_true c11
        clear c11
        simp only [Option.some.injEq, Prod.mk.injEq] at H
        obtain ⟨rfl, rfl⟩ := H
        have p5 : 0 ≤ (x1_1 : Int) := of_decide_eq_true (by first | (with_reducible assumption) | assumption)
        have q5 : x1_1 < (a0.size : Int) := of_decide_eq_true (by first | (with_reducible assumption) | assumption)
        have hx5 := bt_at a0 x1_1
        replace p5 := eq_true p5
        replace q5 := eq_true q5
        go_wp2_with (first | ((with_reducible refine gate_callee (f := 60) rfl ?_); refine goesL_ (some 14) rfl rfl Tryz.func60 (by kernel_rfl) rfl #[.int .u8 (bt a0 x1_1)] rfl (by (try simp only [List.map_toArray, List.map_cons, List.map_nil]); first | done | rfl | (simp only [List.length_drop, List.length_take]; rfl)) ?_; (with_reducible refine (madrigalref01_Blank.calls (bt a0 x1_1) false _ A6.out).mono ?_); rintro e w' ⟨rfl, ⟨nd, rfl⟩⟩; refine ⟨_, rfl, ?_⟩) | ((with_reducible refine gate_callee (f := 65) rfl ?_); refine goesL_ (some 19) rfl rfl Tryz.func65 (by kernel_rfl) rfl #[.string a0, .int .i64 x1_1, .string (⟨#[40, 42]⟩ : ByteArray)] rfl (by (try simp only [List.map_toArray, List.map_cons, List.map_nil]); first | done | rfl | (simp only [List.length_drop, List.length_take]; rfl)) ?_; (with_reducible refine (madrigalref01_begins.calls a0 x1_1 (⟨#[40, 42]⟩ : ByteArray) true _ A8.out).mono ?_); rintro e w' ⟨rfl, ⟨nd, rfl⟩⟩; refine ⟨_, rfl, ?_⟩) | ((with_reducible refine gate_callee (f := 61) rfl ?_); refine goesL_ (some 24) rfl rfl Tryz.func61 (by kernel_rfl) rfl #[.string a0, .int .i64 x1_1] rfl (by (try simp only [List.map_toArray, List.map_cons, List.map_nil]); first | done | rfl | (simp only [List.length_drop, List.length_take]; rfl)) ?_; (with_reducible refine (madrigalref01_comment.calls k1 a0 x1_1 t156 _ A10.out).mono ?_); rintro e w' ⟨rfl, ⟨nd, rfl⟩⟩; refine ⟨_, rfl, ?_⟩))
        go_ret2
        exact ⟨by first | rfl | (simp; done) | (simp [*]; done), by repeat (first | exact Drawn0.refl _ | apply Drawn0.step)⟩
       ·rw [if_neg c11] at H
        have c11b0 : decide (t156 < 0) = false := decide_eq_false c11
        clear c11
        have H' := Aside0.mk H
        clear H
        have p5 : 0 ≤ (x1_1 : Int) := of_decide_eq_true (by first | (with_reducible assumption) | assumption)
        have q5 : x1_1 < (a0.size : Int) := of_decide_eq_true (by first | (with_reducible assumption) | assumption)
        have hx5 := bt_at a0 x1_1
        replace p5 := eq_true p5
        replace q5 := eq_true q5
        go_wp2_with (first | ((with_reducible refine gate_callee (f := 60) rfl ?_); refine goesL_ (some 14) rfl rfl Tryz.func60 (by kernel_rfl) rfl #[.int .u8 (bt a0 x1_1)] rfl (by (try simp only [List.map_toArray, List.map_cons, List.map_nil]); first | done | rfl | (simp only [List.length_drop, List.length_take]; rfl)) ?_; (with_reducible refine (madrigalref01_Blank.calls (bt a0 x1_1) false _ A6.out).mono ?_); rintro e w' ⟨rfl, ⟨nd, rfl⟩⟩; refine ⟨_, rfl, ?_⟩) | ((with_reducible refine gate_callee (f := 65) rfl ?_); refine goesL_ (some 19) rfl rfl Tryz.func65 (by kernel_rfl) rfl #[.string a0, .int .i64 x1_1, .string (⟨#[40, 42]⟩ : ByteArray)] rfl (by (try simp only [List.map_toArray, List.map_cons, List.map_nil]); first | done | rfl | (simp only [List.length_drop, List.length_take]; rfl)) ?_; (with_reducible refine (madrigalref01_begins.calls a0 x1_1 (⟨#[40, 42]⟩ : ByteArray) true _ A8.out).mono ?_); rintro e w' ⟨rfl, ⟨nd, rfl⟩⟩; refine ⟨_, rfl, ?_⟩) | ((with_reducible refine gate_callee (f := 61) rfl ?_); refine goesL_ (some 24) rfl rfl Tryz.func61 (by kernel_rfl) rfl #[.string a0, .int .i64 x1_1] rfl (by (try simp only [List.map_toArray, List.map_cons, List.map_nil]); first | done | rfl | (simp only [List.length_drop, List.length_take]; rfl)) ?_; (with_reducible refine (madrigalref01_comment.calls k1 a0 x1_1 t156 _ A10.out).mono ?_); rintro e w' ⟨rfl, ⟨nd, rfl⟩⟩; refine ⟨_, rfl, ?_⟩))
        go_roundg k1
        case measure => have := HK1.out; omega
        case rel => exact ⟨(t156), (by first | rfl | (simp; done) | (simp [*]; done)), H', ⟨by have := HK1.out; omega⟩, by repeat (first | exact Drawn0.refl _ | apply Drawn0.step)⟩
      ·replace c9 := Bool.eq_false_iff.mpr c9
       subst c9
       have H1 : (some (x1_1, true)) = some (r1, r2) := by rw [if_neg (show ¬ (false = true) by decide)] at H; exact H
       clear H
       have H := H1
       clear H1
       simp only [Option.some.injEq, Prod.mk.injEq] at H
       obtain ⟨rfl, rfl⟩ := H
       have p5 : 0 ≤ (x1_1 : Int) := of_decide_eq_true (by first | (with_reducible assumption) | assumption)
       have q5 : x1_1 < (a0.size : Int) := of_decide_eq_true (by first | (with_reducible assumption) | assumption)
       have hx5 := bt_at a0 x1_1
       replace p5 := eq_true p5
       replace q5 := eq_true q5
       go_wp2_with (first | ((with_reducible refine gate_callee (f := 60) rfl ?_); refine goesL_ (some 14) rfl rfl Tryz.func60 (by kernel_rfl) rfl #[.int .u8 (bt a0 x1_1)] rfl (by (try simp only [List.map_toArray, List.map_cons, List.map_nil]); first | done | rfl | (simp only [List.length_drop, List.length_take]; rfl)) ?_; (with_reducible refine (madrigalref01_Blank.calls (bt a0 x1_1) false _ A6.out).mono ?_); rintro e w' ⟨rfl, ⟨nd, rfl⟩⟩; refine ⟨_, rfl, ?_⟩) | ((with_reducible refine gate_callee (f := 65) rfl ?_); refine goesL_ (some 19) rfl rfl Tryz.func65 (by kernel_rfl) rfl #[.string a0, .int .i64 x1_1, .string (⟨#[40, 42]⟩ : ByteArray)] rfl (by (try simp only [List.map_toArray, List.map_cons, List.map_nil]); first | done | rfl | (simp only [List.length_drop, List.length_take]; rfl)) ?_; (with_reducible refine (madrigalref01_begins.calls a0 x1_1 (⟨#[40, 42]⟩ : ByteArray) false _ A8.out).mono ?_); rintro e w' ⟨rfl, ⟨nd, rfl⟩⟩; refine ⟨_, rfl, ?_⟩))
       go_ret2
       exact ⟨by first | rfl | (simp; done) | (simp [*]; done), by repeat (first | exact Drawn0.refl _ | apply Drawn0.step)⟩
    ·rw [if_neg c4] at H
     exact absurd H (by simp)
   ·rw [if_neg c3] at H
    have c3b0 : decide (x1_1 < (a0.size : Int)) = false := decide_eq_false c3
    clear c3
    simp only [Option.some.injEq, Prod.mk.injEq] at H
    obtain ⟨rfl, rfl⟩ := H
    go_wp2
    go_ret2
    exact ⟨by first | rfl | (simp; done) | (simp [*]; done), by repeat (first | exact Drawn0.refl _ | apply Drawn0.step)⟩

/-! ### madrigalref01_Words: function 20 -/
def madrigalref01_Words.f  : Option (List ByteArray) := some (([(⟨#[97, 99, 99, 101, 112, 116]⟩ : ByteArray), (⟨#[97, 110, 121]⟩ : ByteArray), (⟨#[98, 101, 104, 97, 118, 105, 111, 117, 114]⟩ : ByteArray), (⟨#[99, 104, 111, 105, 99, 101]⟩ : ByteArray), (⟨#[101, 110, 100, 108, 105, 98]⟩ : ByteArray), (⟨#[101, 110, 100, 112, 114, 111, 99]⟩ : ByteArray), (⟨#[101, 110, 100, 115, 112, 101, 99]⟩ : ByteArray), (⟨#[101, 110, 100, 116, 121, 112, 101]⟩ : ByteArray), (⟨#[101, 113, 110, 115]⟩ : ByteArray), (⟨#[101, 120, 105, 116]⟩ : ByteArray), (⟨#[102, 111, 114]⟩ : ByteArray), (⟨#[102, 111, 114, 97, 108, 108]⟩ : ByteArray), (⟨#[102, 111, 114, 109, 97, 108, 101, 113, 110, 115]⟩ : ByteArray), (⟨#[102, 111, 114, 109, 97, 108, 111, 112, 110, 115]⟩ : ByteArray), (⟨#[102, 111, 114, 109, 97, 108, 115, 111, 114, 116, 115]⟩ : ByteArray), (⟨#[104, 105, 100, 101]⟩ : ByteArray), (⟨#[105]⟩ : ByteArray), (⟨#[105, 110]⟩ : ByteArray), (⟨#[105, 115]⟩ : ByteArray), (⟨#[108, 101, 116]⟩ : ByteArray), (⟨#[108, 105, 98, 114, 97, 114, 121]⟩ : ByteArray), (⟨#[110, 111, 101, 120, 105, 116]⟩ : ByteArray), (⟨#[111, 102]⟩ : ByteArray), (⟨#[111, 102, 115, 111, 114, 116]⟩ : ByteArray), (⟨#[111, 112, 110, 110, 97, 109, 101, 115]⟩ : ByteArray), (⟨#[111, 112, 110, 115]⟩ : ByteArray), (⟨#[112, 114, 111, 99, 101, 115, 115]⟩ : ByteArray), (⟨#[114, 101, 110, 97, 109, 101, 100, 98, 121]⟩ : ByteArray), (⟨#[97, 99, 116, 117, 97, 108, 105, 122, 101, 100, 98, 121]⟩ : ByteArray), (⟨#[115, 111, 114, 116, 110, 97, 109, 101, 115]⟩ : ByteArray), (⟨#[115, 111, 114, 116, 115]⟩ : ByteArray), (⟨#[115, 112, 101, 99, 105, 102, 105, 99, 97, 116, 105, 111, 110]⟩ : ByteArray), (⟨#[115, 116, 111, 112]⟩ : ByteArray), (⟨#[116, 121, 112, 101]⟩ : ByteArray), (⟨#[117, 115, 105, 110, 103]⟩ : ByteArray), (⟨#[119, 97, 105, 116]⟩ : ByteArray), (⟨#[119, 104, 101, 114, 101]⟩ : ByteArray)] : List ByteArray))
set_option maxHeartbeats 8000000 in
set_option maxRecDepth 100000 in
theorem madrigalref01_Words.calls  (r : List ByteArray) (w : World) (h : madrigalref01_Words.f  = some r) :
  Calls Tryz.prog 20 #[] w fun e w' => ∃ v0_ : Value, e = .returned (v0_) ∧ Kd.R Kd.string 9 w' w.heap.size (fun _ => True) v0_ r ∧ Below w.heap.size w w' := by
 have HB := Aside0.mk (Below.refl w.heap.size w)
 have H : (some (([(⟨#[97, 99, 99, 101, 112, 116]⟩ : ByteArray), (⟨#[97, 110, 121]⟩ : ByteArray), (⟨#[98, 101, 104, 97, 118, 105, 111, 117, 114]⟩ : ByteArray), (⟨#[99, 104, 111, 105, 99, 101]⟩ : ByteArray), (⟨#[101, 110, 100, 108, 105, 98]⟩ : ByteArray), (⟨#[101, 110, 100, 112, 114, 111, 99]⟩ : ByteArray), (⟨#[101, 110, 100, 115, 112, 101, 99]⟩ : ByteArray), (⟨#[101, 110, 100, 116, 121, 112, 101]⟩ : ByteArray), (⟨#[101, 113, 110, 115]⟩ : ByteArray), (⟨#[101, 120, 105, 116]⟩ : ByteArray), (⟨#[102, 111, 114]⟩ : ByteArray), (⟨#[102, 111, 114, 97, 108, 108]⟩ : ByteArray), (⟨#[102, 111, 114, 109, 97, 108, 101, 113, 110, 115]⟩ : ByteArray), (⟨#[102, 111, 114, 109, 97, 108, 111, 112, 110, 115]⟩ : ByteArray), (⟨#[102, 111, 114, 109, 97, 108, 115, 111, 114, 116, 115]⟩ : ByteArray), (⟨#[104, 105, 100, 101]⟩ : ByteArray), (⟨#[105]⟩ : ByteArray), (⟨#[105, 110]⟩ : ByteArray), (⟨#[105, 115]⟩ : ByteArray), (⟨#[108, 101, 116]⟩ : ByteArray), (⟨#[108, 105, 98, 114, 97, 114, 121]⟩ : ByteArray), (⟨#[110, 111, 101, 120, 105, 116]⟩ : ByteArray), (⟨#[111, 102]⟩ : ByteArray), (⟨#[111, 102, 115, 111, 114, 116]⟩ : ByteArray), (⟨#[111, 112, 110, 110, 97, 109, 101, 115]⟩ : ByteArray), (⟨#[111, 112, 110, 115]⟩ : ByteArray), (⟨#[112, 114, 111, 99, 101, 115, 115]⟩ : ByteArray), (⟨#[114, 101, 110, 97, 109, 101, 100, 98, 121]⟩ : ByteArray), (⟨#[97, 99, 116, 117, 97, 108, 105, 122, 101, 100, 98, 121]⟩ : ByteArray), (⟨#[115, 111, 114, 116, 110, 97, 109, 101, 115]⟩ : ByteArray), (⟨#[115, 111, 114, 116, 115]⟩ : ByteArray), (⟨#[115, 112, 101, 99, 105, 102, 105, 99, 97, 116, 105, 111, 110]⟩ : ByteArray), (⟨#[115, 116, 111, 112]⟩ : ByteArray), (⟨#[116, 121, 112, 101]⟩ : ByteArray), (⟨#[117, 115, 105, 110, 103]⟩ : ByteArray), (⟨#[119, 97, 105, 116]⟩ : ByteArray), (⟨#[119, 104, 101, 114, 101]⟩ : ByteArray)] : List ByteArray))) = some r := h
 clear h
 obtain ⟨y157, hy157⟩ : ∃ y_ : List ByteArray, y_ = (([(⟨#[97, 99, 99, 101, 112, 116]⟩ : ByteArray), (⟨#[97, 110, 121]⟩ : ByteArray), (⟨#[98, 101, 104, 97, 118, 105, 111, 117, 114]⟩ : ByteArray), (⟨#[99, 104, 111, 105, 99, 101]⟩ : ByteArray), (⟨#[101, 110, 100, 108, 105, 98]⟩ : ByteArray), (⟨#[101, 110, 100, 112, 114, 111, 99]⟩ : ByteArray), (⟨#[101, 110, 100, 115, 112, 101, 99]⟩ : ByteArray), (⟨#[101, 110, 100, 116, 121, 112, 101]⟩ : ByteArray), (⟨#[101, 113, 110, 115]⟩ : ByteArray), (⟨#[101, 120, 105, 116]⟩ : ByteArray), (⟨#[102, 111, 114]⟩ : ByteArray), (⟨#[102, 111, 114, 97, 108, 108]⟩ : ByteArray), (⟨#[102, 111, 114, 109, 97, 108, 101, 113, 110, 115]⟩ : ByteArray), (⟨#[102, 111, 114, 109, 97, 108, 111, 112, 110, 115]⟩ : ByteArray), (⟨#[102, 111, 114, 109, 97, 108, 115, 111, 114, 116, 115]⟩ : ByteArray), (⟨#[104, 105, 100, 101]⟩ : ByteArray), (⟨#[105]⟩ : ByteArray), (⟨#[105, 110]⟩ : ByteArray), (⟨#[105, 115]⟩ : ByteArray), (⟨#[108, 101, 116]⟩ : ByteArray), (⟨#[108, 105, 98, 114, 97, 114, 121]⟩ : ByteArray), (⟨#[110, 111, 101, 120, 105, 116]⟩ : ByteArray), (⟨#[111, 102]⟩ : ByteArray), (⟨#[111, 102, 115, 111, 114, 116]⟩ : ByteArray), (⟨#[111, 112, 110, 110, 97, 109, 101, 115]⟩ : ByteArray), (⟨#[111, 112, 110, 115]⟩ : ByteArray), (⟨#[112, 114, 111, 99, 101, 115, 115]⟩ : ByteArray), (⟨#[114, 101, 110, 97, 109, 101, 100, 98, 121]⟩ : ByteArray), (⟨#[97, 99, 116, 117, 97, 108, 105, 122, 101, 100, 98, 121]⟩ : ByteArray), (⟨#[115, 111, 114, 116, 110, 97, 109, 101, 115]⟩ : ByteArray), (⟨#[115, 111, 114, 116, 115]⟩ : ByteArray), (⟨#[115, 112, 101, 99, 105, 102, 105, 99, 97, 116, 105, 111, 110]⟩ : ByteArray), (⟨#[115, 116, 111, 112]⟩ : ByteArray), (⟨#[116, 121, 112, 101]⟩ : ByteArray), (⟨#[117, 115, 105, 110, 103]⟩ : ByteArray), (⟨#[119, 97, 105, 116]⟩ : ByteArray), (⟨#[119, 104, 101, 114, 101]⟩ : ByteArray)] : List ByteArray)) := ⟨_, rfl⟩
 replace H : (some y157) = some r := by first | (rw [hy157]; with_reducible exact H) | (have H2_ := (Option.bind_some _ _).symm.trans H; rw [hy157]; with_reducible exact H2_) | (have H2_ := (Option.bind_some _ _).symm.trans H; with_reducible exact H2_) | with_reducible exact H | (rw [hy157]; exact H) | exact H
 have Ny157 := Aside0.mk hy157
 clear hy157
 obtain rfl := Option.some.inj H
 go_enter Tryz.func20, Tryz.ntmps20
 go_wp2_with (first | ((with_reducible refine gate_dst (N := 1) rfl ?_); refine Kd.R_lit Kd.string _ 9 ?hg (N := 1) ?hd (xs := ([(⟨#[97, 99, 99, 101, 112, 116]⟩ : ByteArray), (⟨#[97, 110, 121]⟩ : ByteArray), (⟨#[98, 101, 104, 97, 118, 105, 111, 117, 114]⟩ : ByteArray), (⟨#[99, 104, 111, 105, 99, 101]⟩ : ByteArray), (⟨#[101, 110, 100, 108, 105, 98]⟩ : ByteArray), (⟨#[101, 110, 100, 112, 114, 111, 99]⟩ : ByteArray), (⟨#[101, 110, 100, 115, 112, 101, 99]⟩ : ByteArray), (⟨#[101, 110, 100, 116, 121, 112, 101]⟩ : ByteArray), (⟨#[101, 113, 110, 115]⟩ : ByteArray), (⟨#[101, 120, 105, 116]⟩ : ByteArray), (⟨#[102, 111, 114]⟩ : ByteArray), (⟨#[102, 111, 114, 97, 108, 108]⟩ : ByteArray), (⟨#[102, 111, 114, 109, 97, 108, 101, 113, 110, 115]⟩ : ByteArray), (⟨#[102, 111, 114, 109, 97, 108, 111, 112, 110, 115]⟩ : ByteArray), (⟨#[102, 111, 114, 109, 97, 108, 115, 111, 114, 116, 115]⟩ : ByteArray), (⟨#[104, 105, 100, 101]⟩ : ByteArray), (⟨#[105]⟩ : ByteArray), (⟨#[105, 110]⟩ : ByteArray), (⟨#[105, 115]⟩ : ByteArray), (⟨#[108, 101, 116]⟩ : ByteArray), (⟨#[108, 105, 98, 114, 97, 114, 121]⟩ : ByteArray), (⟨#[110, 111, 101, 120, 105, 116]⟩ : ByteArray), (⟨#[111, 102]⟩ : ByteArray), (⟨#[111, 102, 115, 111, 114, 116]⟩ : ByteArray), (⟨#[111, 112, 110, 110, 97, 109, 101, 115]⟩ : ByteArray), (⟨#[111, 112, 110, 115]⟩ : ByteArray), (⟨#[112, 114, 111, 99, 101, 115, 115]⟩ : ByteArray), (⟨#[114, 101, 110, 97, 109, 101, 100, 98, 121]⟩ : ByteArray), (⟨#[97, 99, 116, 117, 97, 108, 105, 122, 101, 100, 98, 121]⟩ : ByteArray), (⟨#[115, 111, 114, 116, 110, 97, 109, 101, 115]⟩ : ByteArray), (⟨#[115, 111, 114, 116, 115]⟩ : ByteArray), (⟨#[115, 112, 101, 99, 105, 102, 105, 99, 97, 116, 105, 111, 110]⟩ : ByteArray), (⟨#[115, 116, 111, 112]⟩ : ByteArray), (⟨#[116, 121, 112, 101]⟩ : ByteArray), (⟨#[117, 115, 105, 110, 103]⟩ : ByteArray), (⟨#[119, 97, 105, 116]⟩ : ByteArray), (⟨#[119, 104, 101, 114, 101]⟩ : ByteArray)] : List ByteArray)) (inner := [.string (⟨#[97, 99, 99, 101, 112, 116]⟩ : ByteArray), .string (⟨#[97, 110, 121]⟩ : ByteArray), .string (⟨#[98, 101, 104, 97, 118, 105, 111, 117, 114]⟩ : ByteArray), .string (⟨#[99, 104, 111, 105, 99, 101]⟩ : ByteArray), .string (⟨#[101, 110, 100, 108, 105, 98]⟩ : ByteArray), .string (⟨#[101, 110, 100, 112, 114, 111, 99]⟩ : ByteArray), .string (⟨#[101, 110, 100, 115, 112, 101, 99]⟩ : ByteArray), .string (⟨#[101, 110, 100, 116, 121, 112, 101]⟩ : ByteArray), .string (⟨#[101, 113, 110, 115]⟩ : ByteArray), .string (⟨#[101, 120, 105, 116]⟩ : ByteArray), .string (⟨#[102, 111, 114]⟩ : ByteArray), .string (⟨#[102, 111, 114, 97, 108, 108]⟩ : ByteArray), .string (⟨#[102, 111, 114, 109, 97, 108, 101, 113, 110, 115]⟩ : ByteArray), .string (⟨#[102, 111, 114, 109, 97, 108, 111, 112, 110, 115]⟩ : ByteArray), .string (⟨#[102, 111, 114, 109, 97, 108, 115, 111, 114, 116, 115]⟩ : ByteArray), .string (⟨#[104, 105, 100, 101]⟩ : ByteArray), .string (⟨#[105]⟩ : ByteArray), .string (⟨#[105, 110]⟩ : ByteArray), .string (⟨#[105, 115]⟩ : ByteArray), .string (⟨#[108, 101, 116]⟩ : ByteArray), .string (⟨#[108, 105, 98, 114, 97, 114, 121]⟩ : ByteArray), .string (⟨#[110, 111, 101, 120, 105, 116]⟩ : ByteArray), .string (⟨#[111, 102]⟩ : ByteArray), .string (⟨#[111, 102, 115, 111, 114, 116]⟩ : ByteArray), .string (⟨#[111, 112, 110, 110, 97, 109, 101, 115]⟩ : ByteArray), .string (⟨#[111, 112, 110, 115]⟩ : ByteArray), .string (⟨#[112, 114, 111, 99, 101, 115, 115]⟩ : ByteArray), .string (⟨#[114, 101, 110, 97, 109, 101, 100, 98, 121]⟩ : ByteArray), .string (⟨#[97, 99, 116, 117, 97, 108, 105, 122, 101, 100, 98, 121]⟩ : ByteArray), .string (⟨#[115, 111, 114, 116, 110, 97, 109, 101, 115]⟩ : ByteArray), .string (⟨#[115, 111, 114, 116, 115]⟩ : ByteArray), .string (⟨#[115, 112, 101, 99, 105, 102, 105, 99, 97, 116, 105, 111, 110]⟩ : ByteArray), .string (⟨#[115, 116, 111, 112]⟩ : ByteArray), .string (⟨#[116, 121, 112, 101]⟩ : ByteArray), .string (⟨#[117, 115, 105, 110, 103]⟩ : ByteArray), .string (⟨#[119, 97, 105, 116]⟩ : ByteArray), .string (⟨#[119, 104, 101, 114, 101]⟩ : ByteArray)]) (ok := fun _ => True) (okp := fun _ => True) ?hr ?hp (fun _ hk => hk) trivial (Below.refl _ _) (Nat.le_refl _) (by simp) ?_; (case hd => rfl); (case hg => rfl); (case hr => first | (go_simp; done) | (go_simp; rfl)); (case hp => exact (Reps.one (show Kd.M Kd.string _ _ _ (⟨#[97, 99, 99, 101, 112, 116]⟩ : ByteArray) [.string (⟨#[97, 99, 99, 101, 112, 116]⟩ : ByteArray)] from rfl) (Reps.one (show Kd.M Kd.string _ _ _ (⟨#[97, 110, 121]⟩ : ByteArray) [.string (⟨#[97, 110, 121]⟩ : ByteArray)] from rfl) (Reps.one (show Kd.M Kd.string _ _ _ (⟨#[98, 101, 104, 97, 118, 105, 111, 117, 114]⟩ : ByteArray) [.string (⟨#[98, 101, 104, 97, 118, 105, 111, 117, 114]⟩ : ByteArray)] from rfl) (Reps.one (show Kd.M Kd.string _ _ _ (⟨#[99, 104, 111, 105, 99, 101]⟩ : ByteArray) [.string (⟨#[99, 104, 111, 105, 99, 101]⟩ : ByteArray)] from rfl) (Reps.one (show Kd.M Kd.string _ _ _ (⟨#[101, 110, 100, 108, 105, 98]⟩ : ByteArray) [.string (⟨#[101, 110, 100, 108, 105, 98]⟩ : ByteArray)] from rfl) (Reps.one (show Kd.M Kd.string _ _ _ (⟨#[101, 110, 100, 112, 114, 111, 99]⟩ : ByteArray) [.string (⟨#[101, 110, 100, 112, 114, 111, 99]⟩ : ByteArray)] from rfl) (Reps.one (show Kd.M Kd.string _ _ _ (⟨#[101, 110, 100, 115, 112, 101, 99]⟩ : ByteArray) [.string (⟨#[101, 110, 100, 115, 112, 101, 99]⟩ : ByteArray)] from rfl) (Reps.one (show Kd.M Kd.string _ _ _ (⟨#[101, 110, 100, 116, 121, 112, 101]⟩ : ByteArray) [.string (⟨#[101, 110, 100, 116, 121, 112, 101]⟩ : ByteArray)] from rfl) (Reps.one (show Kd.M Kd.string _ _ _ (⟨#[101, 113, 110, 115]⟩ : ByteArray) [.string (⟨#[101, 113, 110, 115]⟩ : ByteArray)] from rfl) (Reps.one (show Kd.M Kd.string _ _ _ (⟨#[101, 120, 105, 116]⟩ : ByteArray) [.string (⟨#[101, 120, 105, 116]⟩ : ByteArray)] from rfl) (Reps.one (show Kd.M Kd.string _ _ _ (⟨#[102, 111, 114]⟩ : ByteArray) [.string (⟨#[102, 111, 114]⟩ : ByteArray)] from rfl) (Reps.one (show Kd.M Kd.string _ _ _ (⟨#[102, 111, 114, 97, 108, 108]⟩ : ByteArray) [.string (⟨#[102, 111, 114, 97, 108, 108]⟩ : ByteArray)] from rfl) (Reps.one (show Kd.M Kd.string _ _ _ (⟨#[102, 111, 114, 109, 97, 108, 101, 113, 110, 115]⟩ : ByteArray) [.string (⟨#[102, 111, 114, 109, 97, 108, 101, 113, 110, 115]⟩ : ByteArray)] from rfl) (Reps.one (show Kd.M Kd.string _ _ _ (⟨#[102, 111, 114, 109, 97, 108, 111, 112, 110, 115]⟩ : ByteArray) [.string (⟨#[102, 111, 114, 109, 97, 108, 111, 112, 110, 115]⟩ : ByteArray)] from rfl) (Reps.one (show Kd.M Kd.string _ _ _ (⟨#[102, 111, 114, 109, 97, 108, 115, 111, 114, 116, 115]⟩ : ByteArray) [.string (⟨#[102, 111, 114, 109, 97, 108, 115, 111, 114, 116, 115]⟩ : ByteArray)] from rfl) (Reps.one (show Kd.M Kd.string _ _ _ (⟨#[104, 105, 100, 101]⟩ : ByteArray) [.string (⟨#[104, 105, 100, 101]⟩ : ByteArray)] from rfl) (Reps.one (show Kd.M Kd.string _ _ _ (⟨#[105]⟩ : ByteArray) [.string (⟨#[105]⟩ : ByteArray)] from rfl) (Reps.one (show Kd.M Kd.string _ _ _ (⟨#[105, 110]⟩ : ByteArray) [.string (⟨#[105, 110]⟩ : ByteArray)] from rfl) (Reps.one (show Kd.M Kd.string _ _ _ (⟨#[105, 115]⟩ : ByteArray) [.string (⟨#[105, 115]⟩ : ByteArray)] from rfl) (Reps.one (show Kd.M Kd.string _ _ _ (⟨#[108, 101, 116]⟩ : ByteArray) [.string (⟨#[108, 101, 116]⟩ : ByteArray)] from rfl) (Reps.one (show Kd.M Kd.string _ _ _ (⟨#[108, 105, 98, 114, 97, 114, 121]⟩ : ByteArray) [.string (⟨#[108, 105, 98, 114, 97, 114, 121]⟩ : ByteArray)] from rfl) (Reps.one (show Kd.M Kd.string _ _ _ (⟨#[110, 111, 101, 120, 105, 116]⟩ : ByteArray) [.string (⟨#[110, 111, 101, 120, 105, 116]⟩ : ByteArray)] from rfl) (Reps.one (show Kd.M Kd.string _ _ _ (⟨#[111, 102]⟩ : ByteArray) [.string (⟨#[111, 102]⟩ : ByteArray)] from rfl) (Reps.one (show Kd.M Kd.string _ _ _ (⟨#[111, 102, 115, 111, 114, 116]⟩ : ByteArray) [.string (⟨#[111, 102, 115, 111, 114, 116]⟩ : ByteArray)] from rfl) (Reps.one (show Kd.M Kd.string _ _ _ (⟨#[111, 112, 110, 110, 97, 109, 101, 115]⟩ : ByteArray) [.string (⟨#[111, 112, 110, 110, 97, 109, 101, 115]⟩ : ByteArray)] from rfl) (Reps.one (show Kd.M Kd.string _ _ _ (⟨#[111, 112, 110, 115]⟩ : ByteArray) [.string (⟨#[111, 112, 110, 115]⟩ : ByteArray)] from rfl) (Reps.one (show Kd.M Kd.string _ _ _ (⟨#[112, 114, 111, 99, 101, 115, 115]⟩ : ByteArray) [.string (⟨#[112, 114, 111, 99, 101, 115, 115]⟩ : ByteArray)] from rfl) (Reps.one (show Kd.M Kd.string _ _ _ (⟨#[114, 101, 110, 97, 109, 101, 100, 98, 121]⟩ : ByteArray) [.string (⟨#[114, 101, 110, 97, 109, 101, 100, 98, 121]⟩ : ByteArray)] from rfl) (Reps.one (show Kd.M Kd.string _ _ _ (⟨#[97, 99, 116, 117, 97, 108, 105, 122, 101, 100, 98, 121]⟩ : ByteArray) [.string (⟨#[97, 99, 116, 117, 97, 108, 105, 122, 101, 100, 98, 121]⟩ : ByteArray)] from rfl) (Reps.one (show Kd.M Kd.string _ _ _ (⟨#[115, 111, 114, 116, 110, 97, 109, 101, 115]⟩ : ByteArray) [.string (⟨#[115, 111, 114, 116, 110, 97, 109, 101, 115]⟩ : ByteArray)] from rfl) (Reps.one (show Kd.M Kd.string _ _ _ (⟨#[115, 111, 114, 116, 115]⟩ : ByteArray) [.string (⟨#[115, 111, 114, 116, 115]⟩ : ByteArray)] from rfl) (Reps.one (show Kd.M Kd.string _ _ _ (⟨#[115, 112, 101, 99, 105, 102, 105, 99, 97, 116, 105, 111, 110]⟩ : ByteArray) [.string (⟨#[115, 112, 101, 99, 105, 102, 105, 99, 97, 116, 105, 111, 110]⟩ : ByteArray)] from rfl) (Reps.one (show Kd.M Kd.string _ _ _ (⟨#[115, 116, 111, 112]⟩ : ByteArray) [.string (⟨#[115, 116, 111, 112]⟩ : ByteArray)] from rfl) (Reps.one (show Kd.M Kd.string _ _ _ (⟨#[116, 121, 112, 101]⟩ : ByteArray) [.string (⟨#[116, 121, 112, 101]⟩ : ByteArray)] from rfl) (Reps.one (show Kd.M Kd.string _ _ _ (⟨#[117, 115, 105, 110, 103]⟩ : ByteArray) [.string (⟨#[117, 115, 105, 110, 103]⟩ : ByteArray)] from rfl) (Reps.one (show Kd.M Kd.string _ _ _ (⟨#[119, 97, 105, 116]⟩ : ByteArray) [.string (⟨#[119, 97, 105, 116]⟩ : ByteArray)] from rfl) (Reps.one (show Kd.M Kd.string _ _ _ (⟨#[119, 104, 101, 114, 101]⟩ : ByteArray) [.string (⟨#[119, 104, 101, 114, 101]⟩ : ByteArray)] from rfl) (Reps.none _ _))))))))))))))))))))))))))))))))))))))); intro v158 w1 ho2 hb hg_ hnew_; clear hg_ hnew_; (first | rw [← Ny157.out] at ho2 | (simp only [Int.reduceToNat] at ho2; rw [← Ny157.out] at ho2)); have n0_ := Aside0.mk (Kd.R_lower ho2 (below_size (by repeat (first | (with_reducible first | exact HB.out | apply below_alloc | apply pw_below_drewN | apply below_drew1) | exact HB.out)))); have n1_ := Aside0.mk (below_step (by repeat (first | (with_reducible first | exact HB.out | apply below_alloc | apply pw_below_drewN | apply below_drew1) | exact HB.out)) hb); clear HB; have HO159 := n0_; have HB := n1_; clear n0_ n1_; clear hb ho2))
 go_ret
 exact ⟨_, by first | rfl | (simp [errW_none, errW_some] <;> rfl) | (simp [*, errW_none, errW_some] <;> rfl), by (with_reducible repeat (first | apply Kd.R_alloc | apply Kd.R_drewN | apply Kd.R_drew)); exact HO159.out, by repeat (first | (with_reducible first | exact HB.out | apply below_alloc | apply pw_below_drewN | apply below_drew1) | exact HB.out)⟩

/-! ### madrigalref01_Signs: function 22 -/
def madrigalref01_Signs.f  : Option (List ByteArray) := some (([(⟨#[40]⟩ : ByteArray), (⟨#[41]⟩ : ByteArray), (⟨#[91]⟩ : ByteArray), (⟨#[93]⟩ : ByteArray), (⟨#[123]⟩ : ByteArray), (⟨#[125]⟩ : ByteArray), (⟨#[44]⟩ : ByteArray), (⟨#[59]⟩ : ByteArray), (⟨#[58]⟩ : ByteArray), (⟨#[63]⟩ : ByteArray), (⟨#[33]⟩ : ByteArray), (⟨#[95]⟩ : ByteArray), (⟨#[91, 93]⟩ : ByteArray), (⟨#[91, 62]⟩ : ByteArray), (⟨#[124, 91]⟩ : ByteArray), (⟨#[93, 124]⟩ : ByteArray), (⟨#[124, 124]⟩ : ByteArray), (⟨#[124, 124, 124]⟩ : ByteArray), (⟨#[58, 61]⟩ : ByteArray), (⟨#[61]⟩ : ByteArray), (⟨#[45, 62]⟩ : ByteArray), (⟨#[61, 62]⟩ : ByteArray), (⟨#[62, 62]⟩ : ByteArray), (⟨#[46, 46]⟩ : ByteArray)] : List ByteArray))
set_option maxHeartbeats 8000000 in
set_option maxRecDepth 100000 in
theorem madrigalref01_Signs.calls  (r : List ByteArray) (w : World) (h : madrigalref01_Signs.f  = some r) :
  Calls Tryz.prog 22 #[] w fun e w' => ∃ v0_ : Value, e = .returned (v0_) ∧ Kd.R Kd.string 9 w' w.heap.size (fun _ => True) v0_ r ∧ Below w.heap.size w w' := by
 have HB := Aside0.mk (Below.refl w.heap.size w)
 have H : (some (([(⟨#[40]⟩ : ByteArray), (⟨#[41]⟩ : ByteArray), (⟨#[91]⟩ : ByteArray), (⟨#[93]⟩ : ByteArray), (⟨#[123]⟩ : ByteArray), (⟨#[125]⟩ : ByteArray), (⟨#[44]⟩ : ByteArray), (⟨#[59]⟩ : ByteArray), (⟨#[58]⟩ : ByteArray), (⟨#[63]⟩ : ByteArray), (⟨#[33]⟩ : ByteArray), (⟨#[95]⟩ : ByteArray), (⟨#[91, 93]⟩ : ByteArray), (⟨#[91, 62]⟩ : ByteArray), (⟨#[124, 91]⟩ : ByteArray), (⟨#[93, 124]⟩ : ByteArray), (⟨#[124, 124]⟩ : ByteArray), (⟨#[124, 124, 124]⟩ : ByteArray), (⟨#[58, 61]⟩ : ByteArray), (⟨#[61]⟩ : ByteArray), (⟨#[45, 62]⟩ : ByteArray), (⟨#[61, 62]⟩ : ByteArray), (⟨#[62, 62]⟩ : ByteArray), (⟨#[46, 46]⟩ : ByteArray)] : List ByteArray))) = some r := h
 clear h
 obtain ⟨y160, hy160⟩ : ∃ y_ : List ByteArray, y_ = (([(⟨#[40]⟩ : ByteArray), (⟨#[41]⟩ : ByteArray), (⟨#[91]⟩ : ByteArray), (⟨#[93]⟩ : ByteArray), (⟨#[123]⟩ : ByteArray), (⟨#[125]⟩ : ByteArray), (⟨#[44]⟩ : ByteArray), (⟨#[59]⟩ : ByteArray), (⟨#[58]⟩ : ByteArray), (⟨#[63]⟩ : ByteArray), (⟨#[33]⟩ : ByteArray), (⟨#[95]⟩ : ByteArray), (⟨#[91, 93]⟩ : ByteArray), (⟨#[91, 62]⟩ : ByteArray), (⟨#[124, 91]⟩ : ByteArray), (⟨#[93, 124]⟩ : ByteArray), (⟨#[124, 124]⟩ : ByteArray), (⟨#[124, 124, 124]⟩ : ByteArray), (⟨#[58, 61]⟩ : ByteArray), (⟨#[61]⟩ : ByteArray), (⟨#[45, 62]⟩ : ByteArray), (⟨#[61, 62]⟩ : ByteArray), (⟨#[62, 62]⟩ : ByteArray), (⟨#[46, 46]⟩ : ByteArray)] : List ByteArray)) := ⟨_, rfl⟩
 replace H : (some y160) = some r := by first | (rw [hy160]; with_reducible exact H) | (have H2_ := (Option.bind_some _ _).symm.trans H; rw [hy160]; with_reducible exact H2_) | (have H2_ := (Option.bind_some _ _).symm.trans H; with_reducible exact H2_) | with_reducible exact H | (rw [hy160]; exact H) | exact H
 have Ny160 := Aside0.mk hy160
 clear hy160
 obtain rfl := Option.some.inj H
 go_enter Tryz.func22, Tryz.ntmps22
 go_wp2_with (first | ((with_reducible refine gate_dst (N := 1) rfl ?_); refine Kd.R_lit Kd.string _ 9 ?hg (N := 1) ?hd (xs := ([(⟨#[40]⟩ : ByteArray), (⟨#[41]⟩ : ByteArray), (⟨#[91]⟩ : ByteArray), (⟨#[93]⟩ : ByteArray), (⟨#[123]⟩ : ByteArray), (⟨#[125]⟩ : ByteArray), (⟨#[44]⟩ : ByteArray), (⟨#[59]⟩ : ByteArray), (⟨#[58]⟩ : ByteArray), (⟨#[63]⟩ : ByteArray), (⟨#[33]⟩ : ByteArray), (⟨#[95]⟩ : ByteArray), (⟨#[91, 93]⟩ : ByteArray), (⟨#[91, 62]⟩ : ByteArray), (⟨#[124, 91]⟩ : ByteArray), (⟨#[93, 124]⟩ : ByteArray), (⟨#[124, 124]⟩ : ByteArray), (⟨#[124, 124, 124]⟩ : ByteArray), (⟨#[58, 61]⟩ : ByteArray), (⟨#[61]⟩ : ByteArray), (⟨#[45, 62]⟩ : ByteArray), (⟨#[61, 62]⟩ : ByteArray), (⟨#[62, 62]⟩ : ByteArray), (⟨#[46, 46]⟩ : ByteArray)] : List ByteArray)) (inner := [.string (⟨#[40]⟩ : ByteArray), .string (⟨#[41]⟩ : ByteArray), .string (⟨#[91]⟩ : ByteArray), .string (⟨#[93]⟩ : ByteArray), .string (⟨#[123]⟩ : ByteArray), .string (⟨#[125]⟩ : ByteArray), .string (⟨#[44]⟩ : ByteArray), .string (⟨#[59]⟩ : ByteArray), .string (⟨#[58]⟩ : ByteArray), .string (⟨#[63]⟩ : ByteArray), .string (⟨#[33]⟩ : ByteArray), .string (⟨#[95]⟩ : ByteArray), .string (⟨#[91, 93]⟩ : ByteArray), .string (⟨#[91, 62]⟩ : ByteArray), .string (⟨#[124, 91]⟩ : ByteArray), .string (⟨#[93, 124]⟩ : ByteArray), .string (⟨#[124, 124]⟩ : ByteArray), .string (⟨#[124, 124, 124]⟩ : ByteArray), .string (⟨#[58, 61]⟩ : ByteArray), .string (⟨#[61]⟩ : ByteArray), .string (⟨#[45, 62]⟩ : ByteArray), .string (⟨#[61, 62]⟩ : ByteArray), .string (⟨#[62, 62]⟩ : ByteArray), .string (⟨#[46, 46]⟩ : ByteArray)]) (ok := fun _ => True) (okp := fun _ => True) ?hr ?hp (fun _ hk => hk) trivial (Below.refl _ _) (Nat.le_refl _) (by simp) ?_; (case hd => rfl); (case hg => rfl); (case hr => first | (go_simp; done) | (go_simp; rfl)); (case hp => exact (Reps.one (show Kd.M Kd.string _ _ _ (⟨#[40]⟩ : ByteArray) [.string (⟨#[40]⟩ : ByteArray)] from rfl) (Reps.one (show Kd.M Kd.string _ _ _ (⟨#[41]⟩ : ByteArray) [.string (⟨#[41]⟩ : ByteArray)] from rfl) (Reps.one (show Kd.M Kd.string _ _ _ (⟨#[91]⟩ : ByteArray) [.string (⟨#[91]⟩ : ByteArray)] from rfl) (Reps.one (show Kd.M Kd.string _ _ _ (⟨#[93]⟩ : ByteArray) [.string (⟨#[93]⟩ : ByteArray)] from rfl) (Reps.one (show Kd.M Kd.string _ _ _ (⟨#[123]⟩ : ByteArray) [.string (⟨#[123]⟩ : ByteArray)] from rfl) (Reps.one (show Kd.M Kd.string _ _ _ (⟨#[125]⟩ : ByteArray) [.string (⟨#[125]⟩ : ByteArray)] from rfl) (Reps.one (show Kd.M Kd.string _ _ _ (⟨#[44]⟩ : ByteArray) [.string (⟨#[44]⟩ : ByteArray)] from rfl) (Reps.one (show Kd.M Kd.string _ _ _ (⟨#[59]⟩ : ByteArray) [.string (⟨#[59]⟩ : ByteArray)] from rfl) (Reps.one (show Kd.M Kd.string _ _ _ (⟨#[58]⟩ : ByteArray) [.string (⟨#[58]⟩ : ByteArray)] from rfl) (Reps.one (show Kd.M Kd.string _ _ _ (⟨#[63]⟩ : ByteArray) [.string (⟨#[63]⟩ : ByteArray)] from rfl) (Reps.one (show Kd.M Kd.string _ _ _ (⟨#[33]⟩ : ByteArray) [.string (⟨#[33]⟩ : ByteArray)] from rfl) (Reps.one (show Kd.M Kd.string _ _ _ (⟨#[95]⟩ : ByteArray) [.string (⟨#[95]⟩ : ByteArray)] from rfl) (Reps.one (show Kd.M Kd.string _ _ _ (⟨#[91, 93]⟩ : ByteArray) [.string (⟨#[91, 93]⟩ : ByteArray)] from rfl) (Reps.one (show Kd.M Kd.string _ _ _ (⟨#[91, 62]⟩ : ByteArray) [.string (⟨#[91, 62]⟩ : ByteArray)] from rfl) (Reps.one (show Kd.M Kd.string _ _ _ (⟨#[124, 91]⟩ : ByteArray) [.string (⟨#[124, 91]⟩ : ByteArray)] from rfl) (Reps.one (show Kd.M Kd.string _ _ _ (⟨#[93, 124]⟩ : ByteArray) [.string (⟨#[93, 124]⟩ : ByteArray)] from rfl) (Reps.one (show Kd.M Kd.string _ _ _ (⟨#[124, 124]⟩ : ByteArray) [.string (⟨#[124, 124]⟩ : ByteArray)] from rfl) (Reps.one (show Kd.M Kd.string _ _ _ (⟨#[124, 124, 124]⟩ : ByteArray) [.string (⟨#[124, 124, 124]⟩ : ByteArray)] from rfl) (Reps.one (show Kd.M Kd.string _ _ _ (⟨#[58, 61]⟩ : ByteArray) [.string (⟨#[58, 61]⟩ : ByteArray)] from rfl) (Reps.one (show Kd.M Kd.string _ _ _ (⟨#[61]⟩ : ByteArray) [.string (⟨#[61]⟩ : ByteArray)] from rfl) (Reps.one (show Kd.M Kd.string _ _ _ (⟨#[45, 62]⟩ : ByteArray) [.string (⟨#[45, 62]⟩ : ByteArray)] from rfl) (Reps.one (show Kd.M Kd.string _ _ _ (⟨#[61, 62]⟩ : ByteArray) [.string (⟨#[61, 62]⟩ : ByteArray)] from rfl) (Reps.one (show Kd.M Kd.string _ _ _ (⟨#[62, 62]⟩ : ByteArray) [.string (⟨#[62, 62]⟩ : ByteArray)] from rfl) (Reps.one (show Kd.M Kd.string _ _ _ (⟨#[46, 46]⟩ : ByteArray) [.string (⟨#[46, 46]⟩ : ByteArray)] from rfl) (Reps.none _ _)))))))))))))))))))))))))); intro v161 w1 ho2 hb hg_ hnew_; clear hg_ hnew_; (first | rw [← Ny160.out] at ho2 | (simp only [Int.reduceToNat] at ho2; rw [← Ny160.out] at ho2)); have n0_ := Aside0.mk (Kd.R_lower ho2 (below_size (by repeat (first | (with_reducible first | exact HB.out | apply below_alloc | apply pw_below_drewN | apply below_drew1) | exact HB.out)))); have n1_ := Aside0.mk (below_step (by repeat (first | (with_reducible first | exact HB.out | apply below_alloc | apply pw_below_drewN | apply below_drew1) | exact HB.out)) hb); clear HB; have HO162 := n0_; have HB := n1_; clear n0_ n1_; clear hb ho2))
 go_ret
 exact ⟨_, by first | rfl | (simp [errW_none, errW_some] <;> rfl) | (simp [*, errW_none, errW_some] <;> rfl), by (with_reducible repeat (first | apply Kd.R_alloc | apply Kd.R_drewN | apply Kd.R_drew)); exact HO162.out, by repeat (first | (with_reducible first | exact HB.out | apply below_alloc | apply pw_below_drewN | apply below_drew1) | exact HB.out)⟩

/-! ### madrigalref01_letter: function 66 -/
def madrigalref01_letter.f (a0 : Int) : Option (Bool) := if a0 ≥ 97 then (if a0 ≤ 122 then (some true) else (if a0 ≥ 65 then (some (decide (a0 ≤ 90))) else (some false))) else (if a0 ≥ 65 then (some (decide (a0 ≤ 90))) else (some false))
set_option maxHeartbeats 8000000 in
set_option maxRecDepth 100000 in
theorem madrigalref01_letter.calls (a0 : Int) (r : Bool) (w : World) (h : madrigalref01_letter.f a0 = some r) :
  Calls Tryz.prog 66 #[.int .u8 a0] w fun e w' => e = .returned (.bool r) ∧ Drawn0 w w' := by
 have H : (if a0 ≥ 97 then (if a0 ≤ 122 then (some true) else (if a0 ≥ 65 then (some (decide (a0 ≤ 90))) else (some false))) else (if a0 ≥ 65 then (some (decide (a0 ≤ 90))) else (some false))) = some r := h
 clear h
 by_cases c2 : a0 ≥ 97
 ·rw [if_pos c2] at H
  have c2b0 : decide (97 ≤ a0) = true := decide_eq_true c2
  clear c2
  by_cases c3 : a0 ≤ 122
  ·rw [if_pos c3] at H
   have c3b0 : decide (a0 ≤ 122) = true := decide_eq_true c3
   clear c3
   obtain rfl := Option.some.inj H
   go_enter Tryz.func66, Tryz.ntmps66
   go_wp2
   go_ret
   exact ⟨by first | rfl | (simp; done) | (simp [*]; done), by repeat (first | exact Drawn0.refl _ | apply Drawn0.step)⟩
  ·rw [if_neg c3] at H
   have c3b0 : decide (a0 ≤ 122) = false := decide_eq_false c3
   clear c3
   by_cases c4 : a0 ≥ 65
   ·rw [if_pos c4] at H
    have c4b0 : decide (65 ≤ a0) = true := decide_eq_true c4
    clear c4
    obtain rfl := Option.some.inj H
    go_enter Tryz.func66, Tryz.ntmps66
    go_wp2
    go_ret
    exact ⟨by first | rfl | (simp; done) | (simp [*]; done), by repeat (first | exact Drawn0.refl _ | apply Drawn0.step)⟩
   ·rw [if_neg c4] at H
    have c4b0 : decide (65 ≤ a0) = false := decide_eq_false c4
    clear c4
    obtain rfl := Option.some.inj H
    go_enter Tryz.func66, Tryz.ntmps66
    go_wp2
    go_ret
    exact ⟨by first | rfl | (simp; done) | (simp [*]; done), by repeat (first | exact Drawn0.refl _ | apply Drawn0.step)⟩
 ·rw [if_neg c2] at H
  have c2b0 : decide (97 ≤ a0) = false := decide_eq_false c2
  clear c2
  by_cases c5 : a0 ≥ 65
  ·rw [if_pos c5] at H
   have c5b0 : decide (65 ≤ a0) = true := decide_eq_true c5
   clear c5
   obtain rfl := Option.some.inj H
   go_enter Tryz.func66, Tryz.ntmps66
   go_wp2
   go_ret
   exact ⟨by first | rfl | (simp; done) | (simp [*]; done), by repeat (first | exact Drawn0.refl _ | apply Drawn0.step)⟩
  ·rw [if_neg c5] at H
   have c5b0 : decide (65 ≤ a0) = false := decide_eq_false c5
   clear c5
   obtain rfl := Option.some.inj H
   go_enter Tryz.func66, Tryz.ntmps66
   go_wp2
   go_ret
   exact ⟨by first | rfl | (simp; done) | (simp [*]; done), by repeat (first | exact Drawn0.refl _ | apply Drawn0.step)⟩

/-! ### madrigalref01_digit: function 69 -/
def madrigalref01_digit.f (a0 : Int) : Option (Bool) := if a0 ≥ 48 then (some (decide (a0 ≤ 57))) else (some false)
set_option maxHeartbeats 8000000 in
set_option maxRecDepth 100000 in
theorem madrigalref01_digit.calls (a0 : Int) (r : Bool) (w : World) (h : madrigalref01_digit.f a0 = some r) :
  Calls Tryz.prog 69 #[.int .u8 a0] w fun e w' => e = .returned (.bool r) ∧ Drawn0 w w' := by
 have H : (if a0 ≥ 48 then (some (decide (a0 ≤ 57))) else (some false)) = some r := h
 clear h
 by_cases c2 : a0 ≥ 48
 ·rw [if_pos c2] at H
  have c2b0 : decide (48 ≤ a0) = true := decide_eq_true c2
  clear c2
  obtain rfl := Option.some.inj H
  go_enter Tryz.func69, Tryz.ntmps69
  go_wp2
  go_ret
  exact ⟨by first | rfl | (simp; done) | (simp [*]; done), by repeat (first | exact Drawn0.refl _ | apply Drawn0.step)⟩
 ·rw [if_neg c2] at H
  have c2b0 : decide (48 ≤ a0) = false := decide_eq_false c2
  clear c2
  obtain rfl := Option.some.inj H
  go_enter Tryz.func69, Tryz.ntmps69
  go_wp2
  go_ret
  exact ⟨by first | rfl | (simp; done) | (simp [*]; done), by repeat (first | exact Drawn0.refl _ | apply Drawn0.step)⟩

/-! ### madrigalref01_name: function 67 -/
def madrigalref01_name.l0 : Nat → ByteArray → Int → Option (Int)
 | 0, _, _ => none
 | k + 1, x0, x1 => if x1 < (x0.size : Int) then (if 0 ≤ x1 then ((madrigalref01_letter.f (bt x0 x1)).bind fun t163 => (if t163 = true then (madrigalref01_name.l0 k x0 (wrap64 (x1 + 1))) else ((madrigalref01_digit.f (bt x0 x1)).bind fun t164 => (if t164 = true then (madrigalref01_name.l0 k x0 (wrap64 (x1 + 1))) else (if (bt x0 x1) = 39 then (madrigalref01_name.l0 k x0 (wrap64 (x1 + 1))) else (some x1)))))) else (none)) else (some x1)
def madrigalref01_name.f (k : Nat) (a0 : ByteArray) (a1 : Int) : Option (Int) := madrigalref01_name.l0 k a0 a1
theorem madrigalref01_name.mono_l : ∀ k, (∀ y0 y1, LeO (madrigalref01_name.l0 k y0 y1) (madrigalref01_name.l0 (k + 1) y0 y1))
 | 0 => fun _ _ r h => by simp [madrigalref01_name.l0] at h
 | k + 1 => by
  have ih0 := madrigalref01_name.mono_l k
  ·intro y0 y1
   unfold madrigalref01_name.l0
   repeat' first
   | (with_reducible exact ih0 _ _)
   | (with_reducible exact LeO.refl _)
   | (with_reducible exact LeO.none _)
   | (with_reducible refine LeO.ite ?_ ?_)
   | (with_reducible refine LeO.bind ?_ (fun _ => ?_))
   | exact ih0 _ _
   | exact LeO.none _
   | refine LeO.ite ?_ ?_
   | refine LeO.bind ?_ (fun _ => ?_)
theorem madrigalref01_name.mono : ∀ a0 a1 k, LeO (madrigalref01_name.f k a0 a1) (madrigalref01_name.f (k + 1) a0 a1) := by
 intro a0 a1 k
 have ih0 := madrigalref01_name.mono_l k
 unfold madrigalref01_name.f
 repeat' first
   | (with_reducible exact ih0 _ _)
   | (with_reducible exact LeO.refl _)
   | (with_reducible exact LeO.none _)
   | (with_reducible refine LeO.ite ?_ ?_)
   | (with_reducible refine LeO.bind ?_ (fun _ => ?_))
   | exact ih0 _ _
   | exact LeO.none _
   | refine LeO.ite ?_ ?_
   | refine LeO.bind ?_ (fun _ => ?_)
set_option maxHeartbeats 8000000 in
set_option maxRecDepth 100000 in
theorem madrigalref01_name.calls (k : Nat) (a0 : ByteArray) (a1 : Int) (r : Int) (w : World) (h : madrigalref01_name.f k a0 a1 = some r) :
  Calls Tryz.prog 67 #[.string a0, .int .i64 a1] w fun e w' => e = .returned (.int .i64 r) ∧ Drawn0 w w' := by
 have H : (madrigalref01_name.l0 k a0 a1) = some r := h
 clear h
 have H' := Aside0.mk H
 clear H
 go_enter Tryz.func67, Tryz.ntmps67
 go_wp2
 go_loopg [1] k (fun kq v1 w' => ∃ (x1_1 : Int), v1 = .int .i64 x1_1 ∧ Aside0 (madrigalref01_name.l0 kq a0 x1_1 = some r) ∧ Aside0 (kq ≤ k) ∧ Drawn0 w w')
 case atStart => exact ⟨(a1), (by first | rfl | (simp; done) | (simp [*]; done)), H', ⟨Nat.le_refl _⟩, by repeat (first | exact Drawn0.refl _ | apply Drawn0.step)⟩
 case round =>
  clear H'
  try clear p2
  obtain ⟨x1_1, rfl, HA, HK1, ⟨m1, rfl⟩⟩ := hrel
  cases gk with
  | zero => exact absurd HA.out (by simp [madrigalref01_name.l0])
  | succ k1 =>
   have H := HA.out
   clear HA
   simp only [madrigalref01_name.l0] at H
   by_cases c3 : x1_1 < (a0.size : Int)
   ·rw [if_pos c3] at H
    have c3b0 : decide (x1_1 < (a0.size : Int)) = true := decide_eq_true c3
    clear c3
    by_cases c4 : 0 ≤ x1_1
    ·rw [if_pos c4] at H
     have c4b0 : decide (0 ≤ x1_1) = true := decide_eq_true c4
     clear c4
     replace H := Option.bind_eq_some_iff.mp H
     obtain ⟨t163, A60, H⟩ := H
     replace H : (if t163 = true then (madrigalref01_name.l0 k1 a0 (wrap64 (x1_1 + 1))) else ((madrigalref01_digit.f (bt a0 x1_1)).bind fun t164 => (if t164 = true then (madrigalref01_name.l0 k1 a0 (wrap64 (x1_1 + 1))) else (if (bt a0 x1_1) = 39 then (madrigalref01_name.l0 k1 a0 (wrap64 (x1_1 + 1))) else (some x1_1))))) = some r := H
     have A6 := Aside0.mk A60
     clear A60
     by_cases c7 : t163 = true
     ·subst c7
      have H1 : (madrigalref01_name.l0 k1 a0 (wrap64 (x1_1 + 1))) = some r := by rw [if_pos rfl] at H; exact H
      clear H
      have H := H1
      clear H1
      have H' := Aside0.mk H
      clear H
      have p5 : 0 ≤ (x1_1 : Int) := of_decide_eq_true (by first | (with_reducible assumption) | assumption)
      have q5 : x1_1 < (a0.size : Int) := of_decide_eq_true (by first | (with_reducible assumption) | assumption)
      have hx5 := bt_at a0 x1_1
      replace p5 := eq_true p5
      replace q5 := eq_true q5
      go_wp2_with (first | (go_at_call 66; (with_reducible refine (madrigalref01_letter.calls (bt a0 x1_1) true _ A6.out).mono ?_); rintro e w' ⟨rfl, ⟨nd, rfl⟩⟩))
      go_roundg k1
      case measure => have := HK1.out; omega
      case rel => exact ⟨(wrap64 (x1_1 + 1)), (by first | rfl | (simp; done) | (simp [*]; done)), H', ⟨by have := HK1.out; omega⟩, by repeat (first | exact Drawn0.refl _ | apply Drawn0.step)⟩
     ·replace c7 := Bool.eq_false_iff.mpr c7
      subst c7
      have H1 : ((madrigalref01_digit.f (bt a0 x1_1)).bind fun t164 => (if t164 = true then (madrigalref01_name.l0 k1 a0 (wrap64 (x1_1 + 1))) else (if (bt a0 x1_1) = 39 then (madrigalref01_name.l0 k1 a0 (wrap64 (x1_1 + 1))) else (some x1_1)))) = some r := by rw [if_neg (show ¬ (false = true) by decide)] at H; exact H
      clear H
      have H := H1
      clear H1
      replace H := Option.bind_eq_some_iff.mp H
      obtain ⟨t164, A90, H⟩ := H
      replace H : (if t164 = true then (madrigalref01_name.l0 k1 a0 (wrap64 (x1_1 + 1))) else (if (bt a0 x1_1) = 39 then (madrigalref01_name.l0 k1 a0 (wrap64 (x1_1 + 1))) else (some x1_1))) = some r := H
      have A9 := Aside0.mk A90
      clear A90
      by_cases c10 : t164 = true
      ·subst c10
       have H1 : (madrigalref01_name.l0 k1 a0 (wrap64 (x1_1 + 1))) = some r := by rw [if_pos rfl] at H; exact H
       clear H
       have H := H1
       clear H1
       have H' := Aside0.mk H
       clear H
       have p5 : 0 ≤ (x1_1 : Int) := of_decide_eq_true (by first | (with_reducible assumption) | assumption)
       have q5 : x1_1 < (a0.size : Int) := of_decide_eq_true (by first | (with_reducible assumption) | assumption)
       have hx5 := bt_at a0 x1_1
       replace p5 := eq_true p5
       replace q5 := eq_true q5
       go_wp2_with (first | (go_at_call 66; (with_reducible refine (madrigalref01_letter.calls (bt a0 x1_1) false _ A6.out).mono ?_); rintro e w' ⟨rfl, ⟨nd, rfl⟩⟩; have p8 : 0 ≤ (x1_1 : Int) := of_decide_eq_true (by first | (with_reducible assumption) | assumption); have q8 : x1_1 < (a0.size : Int) := of_decide_eq_true (by first | (with_reducible assumption) | assumption); have hx8 := bt_at a0 x1_1; replace p8 := eq_true p8; replace q8 := eq_true q8) | (go_at_call 69; (with_reducible refine (madrigalref01_digit.calls (bt a0 x1_1) true _ A9.out).mono ?_); rintro e w' ⟨rfl, ⟨nd, rfl⟩⟩))
       go_roundg k1
       case measure => have := HK1.out; omega
       case rel => exact ⟨(wrap64 (x1_1 + 1)), (by first | rfl | (simp; done) | (simp [*]; done)), H', ⟨by have := HK1.out; omega⟩, by repeat (first | exact Drawn0.refl _ | apply Drawn0.step)⟩
      ·replace c10 := Bool.eq_false_iff.mpr c10
       subst c10
       have H1 : (if (bt a0 x1_1) = 39 then (madrigalref01_name.l0 k1 a0 (wrap64 (x1_1 + 1))) else (some x1_1)) = some r := by rw [if_neg (show ¬ (false = true) by decide)] at H; exact H
       clear H
       have H := H1
       clear H1
       by_cases c12 : (bt a0 x1_1) = 39
       ·rw [if_pos c12] at H
        have c12b0 : ((bt a0 x1_1) == 39) = true := beq_iff_eq.mpr c12
        have c12b1 : ((bt a0 x1_1) != 39) = false := bne_eq_false_iff_eq.mpr c12
        clear c12
        have H' := Aside0.mk H
        clear H
        have p5 : 0 ≤ (x1_1 : Int) := of_decide_eq_true (by first | (with_reducible assumption) | assumption)
        have q5 : x1_1 < (a0.size : Int) := of_decide_eq_true (by first | (with_reducible assumption) | assumption)
        have hx5 := bt_at a0 x1_1
        replace p5 := eq_true p5
        replace q5 := eq_true q5
        go_wp2_with (first | (go_at_call 66; (with_reducible refine (madrigalref01_letter.calls (bt a0 x1_1) false _ A6.out).mono ?_); rintro e w' ⟨rfl, ⟨nd, rfl⟩⟩; have p8 : 0 ≤ (x1_1 : Int) := of_decide_eq_true (by first | (with_reducible assumption) | assumption); have q8 : x1_1 < (a0.size : Int) := of_decide_eq_true (by first | (with_reducible assumption) | assumption); have hx8 := bt_at a0 x1_1; replace p8 := eq_true p8; replace q8 := eq_true q8) | (go_at_call 69; (with_reducible refine (madrigalref01_digit.calls (bt a0 x1_1) false _ A9.out).mono ?_); rintro e w' ⟨rfl, ⟨nd, rfl⟩⟩; have p11 : 0 ≤ (x1_1 : Int) := of_decide_eq_true (by first | (with_reducible assumption) | assumption); have q11 : x1_1 < (a0.size : Int) := of_decide_eq_true (by first | (with_reducible assumption) | assumption); have hx11 := bt_at a0 x1_1; replace p11 := eq_true p11; replace q11 := eq_true q11))
        go_roundg k1
        case measure => have := HK1.out; omega
        case rel => exact ⟨(wrap64 (x1_1 + 1)), (by first | rfl | (simp; done) | (simp [*]; done)), H', ⟨by have := HK1.out; omega⟩, by repeat (first | exact Drawn0.refl _ | apply Drawn0.step)⟩
       ·rw [if_neg c12] at H
        have c12b0 : ((bt a0 x1_1) == 39) = false := beq_eq_false_iff_ne.mpr c12
        have c12b1 : ((bt a0 x1_1) != 39) = true := bne_iff_ne.mpr c12
        obtain rfl := Option.some.inj H
        have p5 : 0 ≤ (x1_1 : Int) := of_decide_eq_true (by first | (with_reducible assumption) | assumption)
        have q5 : x1_1 < (a0.size : Int) := of_decide_eq_true (by first | (with_reducible assumption) | assumption)
        have hx5 := bt_at a0 x1_1
        replace p5 := eq_true p5
        replace q5 := eq_true q5
        go_wp2_with (first | (go_at_call 66; (with_reducible refine (madrigalref01_letter.calls (bt a0 x1_1) false _ A6.out).mono ?_); rintro e w' ⟨rfl, ⟨nd, rfl⟩⟩; have p8 : 0 ≤ (x1_1 : Int) := of_decide_eq_true (by first | (with_reducible assumption) | assumption); have q8 : x1_1 < (a0.size : Int) := of_decide_eq_true (by first | (with_reducible assumption) | assumption); have hx8 := bt_at a0 x1_1; replace p8 := eq_true p8; replace q8 := eq_true q8) | (go_at_call 69; (with_reducible refine (madrigalref01_digit.calls (bt a0 x1_1) false _ A9.out).mono ?_); rintro e w' ⟨rfl, ⟨nd, rfl⟩⟩; have p11 : 0 ≤ (x1_1 : Int) := of_decide_eq_true (by first | (with_reducible assumption) | assumption); have q11 : x1_1 < (a0.size : Int) := of_decide_eq_true (by first | (with_reducible assumption) | assumption); have hx11 := bt_at a0 x1_1; replace p11 := eq_true p11; replace q11 := eq_true q11))
        go_ret
        exact ⟨by first | rfl | (simp; done) | (simp [*]; done), by repeat (first | exact Drawn0.refl _ | apply Drawn0.step)⟩
    ·rw [if_neg c4] at H
     exact absurd H (by simp)
   ·rw [if_neg c3] at H
    have c3b0 : decide (x1_1 < (a0.size : Int)) = false := decide_eq_false c3
    clear c3
    obtain rfl := Option.some.inj H
    go_wp2
    go_ret
    exact ⟨by first | rfl | (simp; done) | (simp [*]; done), by repeat (first | exact Drawn0.refl _ | apply Drawn0.step)⟩

/-! ### madrigalref01_In: function 68 -/
def madrigalref01_In.l0 : Nat → List ByteArray → ByteArray → Int → Option (Bool)
 | 0, _, _, _ => none
 | k + 1, x0, x1, x5 => if x5 < (x0.length : Int) then (if 0 ≤ x5 then (if (rdOf ByteArray.empty x0 x5).toList = x1.toList then (some true) else (madrigalref01_In.l0 k x0 x1 (wrap64 (x5 + 1)))) else (none)) else (some false)
def madrigalref01_In.f (k : Nat) (l0 : List ByteArray) (a1 : ByteArray) : Option (Bool) := madrigalref01_In.l0 k l0 a1 0
theorem madrigalref01_In.mono_l : ∀ k, (∀ y0 y1 y2, LeO (madrigalref01_In.l0 k y0 y1 y2) (madrigalref01_In.l0 (k + 1) y0 y1 y2))
 | 0 => fun _ _ _ r h => by simp [madrigalref01_In.l0] at h
 | k + 1 => by
  have ih0 := madrigalref01_In.mono_l k
  ·intro y0 y1 y2
   unfold madrigalref01_In.l0
   repeat' first
   | (with_reducible exact ih0 _ _ _)
   | (with_reducible exact LeO.refl _)
   | (with_reducible exact LeO.none _)
   | (with_reducible refine LeO.ite ?_ ?_)
   | (with_reducible refine LeO.bind ?_ (fun _ => ?_))
   | exact ih0 _ _ _
   | exact LeO.none _
   | refine LeO.ite ?_ ?_
   | refine LeO.bind ?_ (fun _ => ?_)
theorem madrigalref01_In.mono : ∀ a0 a1 k, LeO (madrigalref01_In.f k a0 a1) (madrigalref01_In.f (k + 1) a0 a1) := by
 intro a0 a1 k
 have ih0 := madrigalref01_In.mono_l k
 unfold madrigalref01_In.f
 repeat' first
   | (with_reducible exact ih0 _ _ _)
   | (with_reducible exact LeO.refl _)
   | (with_reducible exact LeO.none _)
   | (with_reducible refine LeO.ite ?_ ?_)
   | (with_reducible refine LeO.bind ?_ (fun _ => ?_))
   | exact ih0 _ _ _
   | exact LeO.none _
   | refine LeO.ite ?_ ?_
   | refine LeO.bind ?_ (fun _ => ?_)
set_option maxHeartbeats 8000000 in
set_option maxRecDepth 100000 in
theorem madrigalref01_In.calls (k : Nat) (A0 : Option Addr) (c0 : Nat) (l0 : List ByteArray) (a1 : ByteArray) (r : Bool) (w : World) (hr0 : Kd.C Kd.string w A0 l0.length l0) (hc0 : l0.length ≤ c0) (h : madrigalref01_In.f k l0 a1 = some r) :
  Calls Tryz.prog 68 #[.slice A0 l0.length c0, .string a1] w fun e w' => e = .returned (.bool r) ∧ Drawn0 w w' := by
 have HR0 := Aside0.mk hr0
 have HC0 := Aside0.mk hc0
 clear hr0 hc0
 have H : (madrigalref01_In.l0 k l0 a1 0) = some r := h
 clear h
 have H' := Aside0.mk H
 clear H
 go_enter Tryz.func68, Tryz.ntmps68
 go_wp2
 go_loopg [5] k (fun kq v5 w' => ∃ (x5_1 : Int), v5 = .int .i64 x5_1 ∧ Aside0 (madrigalref01_In.l0 kq l0 a1 x5_1 = some r) ∧ Aside0 (kq ≤ k) ∧ Drawn0 w w')
 case atStart => exact ⟨(0), (by first | rfl | (simp; done) | (simp [*]; done)), H', ⟨Nat.le_refl _⟩, by repeat (first | exact Drawn0.refl _ | apply Drawn0.step)⟩
 case round =>
  clear H'
  try clear p2
  obtain ⟨x5_1, rfl, HA, HK1, ⟨m1, rfl⟩⟩ := hrel
  cases gk with
  | zero => exact absurd HA.out (by simp [madrigalref01_In.l0])
  | succ k1 =>
   have H := HA.out
   clear HA
   simp only [madrigalref01_In.l0] at H
   by_cases c3 : x5_1 < (l0.length : Int)
   ·rw [if_pos c3] at H
    have c3b0 : decide (x5_1 < (l0.length : Int)) = true := decide_eq_true c3
    clear c3
    by_cases c4 : 0 ≤ x5_1
    ·rw [if_pos c4] at H
     have c4b0 : decide (0 ≤ x5_1) = true := decide_eq_true c4
     clear c4
     by_cases c5 : (rdOf ByteArray.empty l0 x5_1).toList = a1.toList
     ·rw [if_pos c5] at H
      have c5b0 : ((rdOf ByteArray.empty l0 x5_1).toList == a1.toList) = true := beq_iff_eq.mpr c5
      have c5b1 : ((rdOf ByteArray.empty l0 x5_1).toList != a1.toList) = false := bne_eq_false_iff_eq.mpr c5
      clear c5
      obtain rfl := Option.some.inj H
      have p165 : 0 ≤ (x5_1 : Int) := of_decide_eq_true (by first | (with_reducible assumption) | assumption)
      have q165 : x5_1 < (l0.length : Int) := of_decide_eq_true (by first | (with_reducible assumption) | assumption)
      obtain ⟨ad165, e165, hx165_0⟩ := Kd.at_string HR0.out x5_1 p165 q165
      cases e165
      replace p165 := eq_true p165
      replace q165 := eq_true q165
      go_wp2
      go_ret
      exact ⟨by first | rfl | (simp; done) | (simp [*]; done), by repeat (first | exact Drawn0.refl _ | apply Drawn0.step)⟩
     ·rw [if_neg c5] at H
      have c5b0 : ((rdOf ByteArray.empty l0 x5_1).toList == a1.toList) = false := beq_eq_false_iff_ne.mpr c5
      have c5b1 : ((rdOf ByteArray.empty l0 x5_1).toList != a1.toList) = true := bne_iff_ne.mpr c5
      have H' := Aside0.mk H
      clear H
      have p165 : 0 ≤ (x5_1 : Int) := of_decide_eq_true (by first | (with_reducible assumption) | assumption)
      have q165 : x5_1 < (l0.length : Int) := of_decide_eq_true (by first | (with_reducible assumption) | assumption)
      obtain ⟨ad165, e165, hx165_0⟩ := Kd.at_string HR0.out x5_1 p165 q165
      cases e165
      replace p165 := eq_true p165
      replace q165 := eq_true q165
      go_wp2
      go_roundg k1
      case measure => have := HK1.out; omega
      case rel => exact ⟨(wrap64 (x5_1 + 1)), (by first | rfl | (simp; done) | (simp [*]; done)), H', ⟨by have := HK1.out; omega⟩, by repeat (first | exact Drawn0.refl _ | apply Drawn0.step)⟩
    ·rw [if_neg c4] at H
     exact absurd H (by simp)
   ·rw [if_neg c3] at H
    have c3b0 : decide (x5_1 < (l0.length : Int)) = false := decide_eq_false c3
    clear c3
    obtain rfl := Option.some.inj H
    go_wp2
    go_ret
    exact ⟨by first | rfl | (simp; done) | (simp [*]; done), by repeat (first | exact Drawn0.refl _ | apply Drawn0.step)⟩

/-! ### madrigalref01_number: function 70 -/
mutual
def madrigalref01_number.l0 : Nat → ByteArray → Int → Int → Int → Bool → Option (Int × Int × ByteArray × Int × Int × Bool)
 | 0, _, _, _, _, _ => none
 | k + 1, x0, x1, x6, x7, x8 => if x6 < (x0.size : Int) then (if 0 ≤ x6 then ((madrigalref01_digit.f (bt x0 x6)).bind fun t167 => (madrigalref01_number.j1 k x0 x1 x6 x7 x8 t167)) else (none)) else (madrigalref01_number.j1 k x0 x1 x6 x7 x8 false)
def madrigalref01_number.j1 : Nat → ByteArray → Int → Int → Int → Bool → Bool → Option (Int × Int × ByteArray × Int × Int × Bool)
 | 0, _, _, _, _, _, _ => none
 | k + 1, x0, x1, x6, x7, x8, x19 => if x19 = true then (if x8 = true then (madrigalref01_number.l0 k x0 x1 (wrap64 (x6 + 1)) x7 true) else (if 0 ≤ x6 then (if x6 < (x0.size : Int) then (madrigalref01_number.l0 k x0 x1 (wrap64 (x6 + 1)) (wrap64 ((wrap64 ((wrap64 (10 * x7)) + (wrap64 (bt x0 x6)))) - 48)) (decide ((wrap64 ((wrap64 ((wrap64 (10 * x7)) + (wrap64 (bt x0 x6)))) - 48)) > 2147483647))) else (none)) else (none))) else (if x8 = true then (some (0, 0, (⟨#[]⟩ : ByteArray), 0, 0, false)) else (if x6 < (x0.size : Int) then (if 0 ≤ x6 then ((madrigalref01_letter.f (bt x0 x6)).bind fun t168 => (if t168 = true then (some (0, 0, (⟨#[]⟩ : ByteArray), 0, 0, false)) else (if (bt x0 x6) = 39 then (some (0, 0, (⟨#[]⟩ : ByteArray), 0, 0, false)) else (some (3, x7, (⟨#[]⟩ : ByteArray), x1, x6, true))))) else (none)) else (some (3, x7, (⟨#[]⟩ : ByteArray), x1, x6, true))))
end
def madrigalref01_number.f (k : Nat) (a0 : ByteArray) (a1 : Int) : Option (Int × Int × ByteArray × Int × Int × Bool) := madrigalref01_number.l0 k a0 a1 a1 0 false
theorem madrigalref01_number.mono_l : ∀ k, (∀ y0 y1 y2 y3 y4, LeO (madrigalref01_number.l0 k y0 y1 y2 y3 y4) (madrigalref01_number.l0 (k + 1) y0 y1 y2 y3 y4)) ∧ (∀ y0 y1 y2 y3 y4 y5, LeO (madrigalref01_number.j1 k y0 y1 y2 y3 y4 y5) (madrigalref01_number.j1 (k + 1) y0 y1 y2 y3 y4 y5))
 | 0 => ⟨fun _ _ _ _ _ r h => by simp [madrigalref01_number.l0] at h, fun _ _ _ _ _ _ r h => by simp [madrigalref01_number.j1] at h⟩
 | k + 1 => by
  obtain ⟨ih0, ih1⟩ := madrigalref01_number.mono_l k
  refine ⟨?_, ?_⟩
  ·intro y0 y1 y2 y3 y4
   unfold madrigalref01_number.l0
   repeat' first
   | (with_reducible exact ih0 _ _ _ _ _)
   | (with_reducible exact ih1 _ _ _ _ _ _)
   | (with_reducible exact LeO.refl _)
   | (with_reducible exact LeO.none _)
   | (with_reducible refine LeO.ite ?_ ?_)
   | (with_reducible refine LeO.bind ?_ (fun _ => ?_))
   | exact ih0 _ _ _ _ _
   | exact ih1 _ _ _ _ _ _
   | exact LeO.none _
   | refine LeO.ite ?_ ?_
   | refine LeO.bind ?_ (fun _ => ?_)
  ·intro y0 y1 y2 y3 y4 y5
   unfold madrigalref01_number.j1
   repeat' first
   | (with_reducible exact ih0 _ _ _ _ _)
   | (with_reducible exact ih1 _ _ _ _ _ _)
   | (with_reducible exact LeO.refl _)
   | (with_reducible exact LeO.none _)
   | (with_reducible refine LeO.ite ?_ ?_)
   | (with_reducible refine LeO.bind ?_ (fun _ => ?_))
   | exact ih0 _ _ _ _ _
   | exact ih1 _ _ _ _ _ _
   | exact LeO.none _
   | refine LeO.ite ?_ ?_
   | refine LeO.bind ?_ (fun _ => ?_)
theorem madrigalref01_number.mono : ∀ a0 a1 k, LeO (madrigalref01_number.f k a0 a1) (madrigalref01_number.f (k + 1) a0 a1) := by
 intro a0 a1 k
 obtain ⟨ih0, ih1⟩ := madrigalref01_number.mono_l k
 unfold madrigalref01_number.f
 repeat' first
   | (with_reducible exact ih0 _ _ _ _ _)
   | (with_reducible exact ih1 _ _ _ _ _ _)
   | (with_reducible exact LeO.refl _)
   | (with_reducible exact LeO.none _)
   | (with_reducible refine LeO.ite ?_ ?_)
   | (with_reducible refine LeO.bind ?_ (fun _ => ?_))
   | exact ih0 _ _ _ _ _
   | exact ih1 _ _ _ _ _ _
   | exact LeO.none _
   | refine LeO.ite ?_ ?_
   | refine LeO.bind ?_ (fun _ => ?_)
set_option maxHeartbeats 8000000 in
set_option maxRecDepth 100000 in
theorem madrigalref01_number.calls (k : Nat) (a0 : ByteArray) (a1 : Int) (r1 : Int) (r2 : Int) (r3 : ByteArray) (r4 : Int) (r5 : Int) (r6 : Bool) (w : World) (h : madrigalref01_number.f k a0 a1 = some (r1, r2, r3, r4, r5, r6)) :
  Calls Tryz.prog 70 #[.string a0, .int .i64 a1] w fun e w' => e = .returned (.tuple #[.agg #[.int .i64 r1, .int .i64 r2, .string r3, .int .i64 r4, .int .i64 r5], .bool r6]) ∧ Below w.heap.size w w' := by
 have hu38 := Tryz.underlying38
 have HB := Aside0.mk (Below.refl w.heap.size w)
 have H : (madrigalref01_number.l0 k a0 a1 a1 0 false) = some (r1, r2, r3, r4, r5, r6) := h
 clear h
 have H' := Aside0.mk H
 clear H
 go_enter Tryz.func70, Tryz.ntmps70
 go_wp2_with (first | ((with_reducible refine gate_dst (N := 4) rfl ?_); (try (refine gate_guard (by rfl) ?_; dsimp only)); refine box_event ?hg (N := 4) ?hd (cs := #[.int .i64 0, .int .i64 0, .string (⟨#[]⟩ : ByteArray), .int .i64 0, .int .i64 0]) (t := 38) ?hr ?_; (case hd => rfl); (case hg => rfl); (case hr => first | (go_simp; done) | (go_simp; rfl)); intro gb166 hg w3 hbox hb; have n0_ := Aside0.mk (below_step (by repeat (first | (with_reducible first | exact HB.out | apply below_alloc | apply pw_below_drewN | apply below_drew1) | exact HB.out)) hb); have n1_ := Aside0.mk (hbox); have n2_ := Aside0.mk ((by rw [hg]; exact (below_size (by repeat (first | (with_reducible first | exact HB.out | apply below_alloc | apply pw_below_drewN | apply below_drew1) | exact HB.out))) : w.heap.size ≤ gb166)); have n3_ := Aside0.mk ((by rw [hg]; exact (below_size (by repeat (first | (with_reducible first | exact HB.out | apply below_alloc | apply pw_below_drewN | apply below_drew1) | exact HB.out))) : w.heap.size ≤ gb166)); clear HB; have HB := n0_; have BK166 := n1_; have GW166 := n2_; have GE166 := n3_; clear n0_ n1_ n2_ n3_; clear hb hbox hg))
 go_loopg [6, 7, 8] k (fun kq v6 v7 v8 w' => ∃ (x6_1 : Int) (x7_1 : Int) (x8_1 : Bool), v6 = .int .i64 x6_1 ∧ v7 = .int .i64 x7_1 ∧ v8 = .bool x8_1 ∧ Aside0 (madrigalref01_number.l0 kq a0 a1 x6_1 x7_1 x8_1 = some (r1, r2, r3, r4, r5, r6)) ∧ Aside0 (kq ≤ k) ∧ Aside0 (w'.heap[gb166]? = some (.cells #[.int .i64 0, .int .i64 0, .string (⟨#[]⟩ : ByteArray), .int .i64 0, .int .i64 0] 38 (0, 0))) ∧ Aside0 (Below w.heap.size w w'))
 case atStart => exact ⟨(a1), (0), (false), (by first | rfl | (simp; done) | (simp [*]; done)), (by first | rfl | (simp; done) | (simp [*]; done)), (by first | rfl | (simp; done) | (simp [*]; done)), H', ⟨Nat.le_refl _⟩, ⟨by (with_reducible repeat (first | refine blk_drewN ?_ _ | refine blk_drew ?_ | refine blk_alloc ?_ _)); exact BK166.out⟩, ⟨by repeat (first | (with_reducible first | exact HB.out | apply below_alloc | apply pw_below_drewN | apply below_drew1 | refine below_set ?_ GE166.out) | exact HB.out)⟩⟩
 case round =>
  clear H'
  try clear p2
  obtain ⟨x6_1, x7_1, x8_1, rfl, rfl, rfl, HA, HK1, BK166, HB⟩ := hrel
  cases gk with
  | zero => exact absurd HA.out (by simp [madrigalref01_number.l0])
  | succ k1 =>
   have H := HA.out
   clear HA
   simp only [madrigalref01_number.l0] at H
   have HC4 := Aside0.mk H
   clear H
   go_upto_region 4 with (fail)
   go_cut [19] (fun v19 wc => ∃ (kq : Nat) (x19_3 : Bool), v19 = .bool x19_3 ∧ Aside0 (madrigalref01_number.j1 kq a0 a1 x6_1 x7_1 x8_1 x19_3 = some (r1, r2, r3, r4, r5, r6)) ∧ Aside0 (kq ≤ k1) ∧ Aside0 (wc.heap[gb166]? = some (.cells #[.int .i64 0, .int .i64 0, .string (⟨#[]⟩ : ByteArray), .int .i64 0, .int .i64 0] 38 (0, 0))) ∧ Aside0 (Below w.heap.size w wc))
   case first =>
    have H := HC4.out
    clear HC4
    by_cases c5 : x6_1 < (a0.size : Int)
    ·rw [if_pos c5] at H
     have c5b0 : decide (x6_1 < (a0.size : Int)) = true := decide_eq_true c5
     clear c5
     (first | rw [c5b0] | (simp only [i64_w, i32_w]; rw [c5b0]) | skip)
     by_cases c6 : 0 ≤ x6_1
     ·rw [if_pos c6] at H
      have c6b0 : decide (0 ≤ x6_1) = true := decide_eq_true c6
      clear c6
      replace H := Option.bind_eq_some_iff.mp H
      obtain ⟨t167, A80, H⟩ := H
      replace H : (madrigalref01_number.j1 k1 a0 a1 x6_1 x7_1 x8_1 t167) = some (r1, r2, r3, r4, r5, r6) := H
      have A8 := Aside0.mk A80
      clear A80
      have H' := Aside0.mk H
      clear H
      have p7 : 0 ≤ (x6_1 : Int) := of_decide_eq_true (by first | (with_reducible assumption) | assumption)
      have q7 : x6_1 < (a0.size : Int) := of_decide_eq_true (by first | (with_reducible assumption) | assumption)
      have hx7 := bt_at a0 x6_1
      replace p7 := eq_true p7
      replace q7 := eq_true q7
      go_wp2_with (first | (go_at_call 69; (with_reducible refine (madrigalref01_digit.calls (bt a0 x6_1) t167 _ A8.out).mono ?_); rintro e w' ⟨rfl, ⟨nd, rfl⟩⟩))
      go_meet
      case rel => exact ⟨_, (t167), (by first | rfl | (simp; done) | (simp [*]; done)), H', ⟨by have := HK1.out; first | omega | exact Nat.le_refl _⟩, ⟨by (with_reducible repeat (first | refine blk_drewN ?_ _ | refine blk_drew ?_ | refine blk_alloc ?_ _)); exact BK166.out⟩, ⟨by repeat (first | (with_reducible first | exact HB.out | apply below_alloc | apply pw_below_drewN | apply below_drew1 | refine below_set ?_ GE166.out) | exact HB.out)⟩⟩
     ·rw [if_neg c6] at H
      exact absurd H (by simp)
    ·rw [if_neg c5] at H
     have c5b0 : decide (x6_1 < (a0.size : Int)) = false := decide_eq_false c5
     clear c5
     (first | rw [c5b0] | (simp only [i64_w, i32_w]; rw [c5b0]) | skip)
     have H' := Aside0.mk H
     clear H
     go_wp2
     go_meet
     case rel => exact ⟨_, (false), (by first | rfl | (simp; done) | (simp [*]; done)), H', ⟨by have := HK1.out; first | omega | exact Nat.le_refl _⟩, ⟨by (with_reducible repeat (first | refine blk_drewN ?_ _ | refine blk_drew ?_ | refine blk_alloc ?_ _)); exact BK166.out⟩, ⟨by repeat (first | (with_reducible first | exact HB.out | apply below_alloc | apply pw_below_drewN | apply below_drew1 | refine below_set ?_ GE166.out) | exact HB.out)⟩⟩
   case rest =>
    clear HC4
    try clear p2
    try clear c5
    try clear c5b0
    try clear c6
    try clear c6b0
    try clear c7
    try clear p7
    try clear q7
    try clear hx7
    try clear p2
    try clear p7
    try clear q7
    obtain ⟨kq, x19_3, rfl, HA, HJ3, BK166, HB⟩ := hcut
    cases kq with
    | zero => exact absurd HA.out (by simp [madrigalref01_number.j1])
    | succ kj3 =>
     have H := HA.out
     clear HA
     simp only [madrigalref01_number.j1] at H
     by_cases c9 : x19_3 = true
     ·subst c9
      have H1 : (if x8_1 = true then (madrigalref01_number.l0 kj3 a0 a1 (wrap64 (x6_1 + 1)) x7_1 true) else (if 0 ≤ x6_1 then (if x6_1 < (a0.size : Int) then (madrigalref01_number.l0 kj3 a0 a1 (wrap64 (x6_1 + 1)) (wrap64 ((wrap64 ((wrap64 (10 * x7_1)) + (wrap64 (bt a0 x6_1)))) - 48)) (decide ((wrap64 ((wrap64 ((wrap64 (10 * x7_1)) + (wrap64 (bt a0 x6_1)))) - 48)) > 2147483647))) else (none)) else (none))) = some (r1, r2, r3, r4, r5, r6) := by rw [if_pos rfl] at H; exact H
      clear H
      have H := H1
      clear H1
      by_cases c10 : x8_1 = true
      ·subst c10
       have H1 : (madrigalref01_number.l0 kj3 a0 a1 (wrap64 (x6_1 + 1)) x7_1 true) = some (r1, r2, r3, r4, r5, r6) := by rw [if_pos rfl] at H; exact H
       clear H
       have H := H1
       clear H1
       have H' := Aside0.mk H
       clear H
       go_wp2
       go_roundg kj3
       case measure => have := HK1.out; have := HJ3.out; omega
       case rel => exact ⟨(wrap64 (x6_1 + 1)), (x7_1), (true), (by first | rfl | (simp; done) | (simp [*]; done)), (by first | rfl | (simp; done) | (simp [*]; done)), (by first | rfl | (simp; done) | (simp [*]; done)), H', ⟨by have := HK1.out; have := HJ3.out; omega⟩, ⟨by (with_reducible repeat (first | refine blk_drewN ?_ _ | refine blk_drew ?_ | refine blk_alloc ?_ _)); exact BK166.out⟩, ⟨by repeat (first | (with_reducible first | exact HB.out | apply below_alloc | apply pw_below_drewN | apply below_drew1 | refine below_set ?_ GE166.out) | exact HB.out)⟩⟩
      ·replace c10 := Bool.eq_false_iff.mpr c10
       subst c10
       have H1 : (if 0 ≤ x6_1 then (if x6_1 < (a0.size : Int) then (madrigalref01_number.l0 kj3 a0 a1 (wrap64 (x6_1 + 1)) (wrap64 ((wrap64 ((wrap64 (10 * x7_1)) + (wrap64 (bt a0 x6_1)))) - 48)) (decide ((wrap64 ((wrap64 ((wrap64 (10 * x7_1)) + (wrap64 (bt a0 x6_1)))) - 48)) > 2147483647))) else (none)) else (none)) = some (r1, r2, r3, r4, r5, r6) := by rw [if_neg (show ¬ (false = true) by decide)] at H; exact H
       clear H
       have H := H1
       clear H1
       by_cases c11 : 0 ≤ x6_1
       ·rw [if_pos c11] at H
        have c11b0 : decide (0 ≤ x6_1) = true := decide_eq_true c11
        clear c11
        by_cases c12 : x6_1 < (a0.size : Int)
        ·rw [if_pos c12] at H
         have c12b0 : decide (x6_1 < (a0.size : Int)) = true := decide_eq_true c12
         clear c12
         have H' := Aside0.mk H
         clear H
         have p13 : 0 ≤ (x6_1 : Int) := of_decide_eq_true (by first | (with_reducible assumption) | assumption)
         have q13 : x6_1 < (a0.size : Int) := of_decide_eq_true (by first | (with_reducible assumption) | assumption)
         have hx13 := bt_at a0 x6_1
         replace p13 := eq_true p13
         replace q13 := eq_true q13
         go_wp2
         go_roundg kj3
         case measure => have := HK1.out; have := HJ3.out; omega
         case rel => exact ⟨(wrap64 (x6_1 + 1)), (wrap64 ((wrap64 ((wrap64 (10 * x7_1)) + (wrap64 (bt a0 x6_1)))) - 48)), (decide ((wrap64 ((wrap64 ((wrap64 (10 * x7_1)) + (wrap64 (bt a0 x6_1)))) - 48)) > 2147483647)), (by first | rfl | (simp; done) | (simp [*]; done)), (by first | rfl | (simp; done) | (simp [*]; done)), (by first | rfl | (simp; done) | (simp [*]; done)), H', ⟨by have := HK1.out; have := HJ3.out; omega⟩, ⟨by (with_reducible repeat (first | refine blk_drewN ?_ _ | refine blk_drew ?_ | refine blk_alloc ?_ _)); exact BK166.out⟩, ⟨by repeat (first | (with_reducible first | exact HB.out | apply below_alloc | apply pw_below_drewN | apply below_drew1 | refine below_set ?_ GE166.out) | exact HB.out)⟩⟩
        ·rw [if_neg c12] at H
         exact absurd H (by simp)
       ·rw [if_neg c11] at H
        exact absurd H (by simp)
     ·replace c9 := Bool.eq_false_iff.mpr c9
      subst c9
      have H1 : (if x8_1 = true then (some (0, 0, (⟨#[]⟩ : ByteArray), 0, 0, false)) else (if x6_1 < (a0.size : Int) then (if 0 ≤ x6_1 then ((madrigalref01_letter.f (bt a0 x6_1)).bind fun t168 => (if t168 = true then (some (0, 0, (⟨#[]⟩ : ByteArray), 0, 0, false)) else (if (bt a0 x6_1) = 39 then (some (0, 0, (⟨#[]⟩ : ByteArray), 0, 0, false)) else (some (3, x7_1, (⟨#[]⟩ : ByteArray), a1, x6_1, true))))) else (none)) else (some (3, x7_1, (⟨#[]⟩ : ByteArray), a1, x6_1, true)))) = some (r1, r2, r3, r4, r5, r6) := by rw [if_neg (show ¬ (false = true) by decide)] at H; exact H
      clear H
      have H := H1
      clear H1
      by_cases c14 : x8_1 = true
      ·subst c14
       have H1 : (some (0, 0, (⟨#[]⟩ : ByteArray), 0, 0, false)) = some (r1, r2, r3, r4, r5, r6) := by rw [if_pos rfl] at H; exact H
       clear H
       have H := H1
       clear H1
       simp only [Option.some.injEq, Prod.mk.injEq] at H
       obtain ⟨rfl, rfl, rfl, rfl, rfl, rfl⟩ := H
       have hcz15_0 : wc.cell? ⟨gb166, 0, none⟩ = some (.int .i64 0) := (blk_cell BK166.out 0).trans rfl
       have hcz15_1 : wc.cell? ⟨gb166, 1, none⟩ = some (.int .i64 0) := (blk_cell BK166.out 1).trans rfl
       have hcz15_2 : wc.cell? ⟨gb166, 2, none⟩ = some (.string (⟨#[]⟩ : ByteArray)) := (blk_cell BK166.out 2).trans rfl
       have hcz15_3 : wc.cell? ⟨gb166, 3, none⟩ = some (.int .i64 0) := (blk_cell BK166.out 3).trans rfl
       have hcz15_4 : wc.cell? ⟨gb166, 4, none⟩ = some (.int .i64 0) := (blk_cell BK166.out 4).trans rfl
       have hfz15_0 := blk_frozen BK166.out 0
       have hfz15_1 := blk_frozen BK166.out 1
       have hfz15_2 := blk_frozen BK166.out 2
       have hfz15_3 := blk_frozen BK166.out 3
       have hfz15_4 := blk_frozen BK166.out 4
       go_wp2
       refine bodyPost_ret (results_ct rfl _ _ gb166 38 #[.int .i64 0, .int .i64 0, .string (⟨#[]⟩ : ByteArray), .int .i64 0, .int .i64 0] (0, 0) _ rfl (by (with_reducible repeat (first | refine blk_drewN ?_ _ | refine blk_drew ?_ | refine blk_alloc ?_ _)); refine blk_put (cs := #[.int .i64 0, .int .i64 0, .string (⟨#[]⟩ : ByteArray), .int .i64 0, .int .i64 0]) ?_ 4 _ rfl; (with_reducible repeat (first | refine blk_drewN ?_ _ | refine blk_drew ?_ | refine blk_alloc ?_ _)); refine blk_put (cs := #[.int .i64 0, .int .i64 0, .string (⟨#[]⟩ : ByteArray), .int .i64 0, .int .i64 0]) ?_ 3 _ rfl; (with_reducible repeat (first | refine blk_drewN ?_ _ | refine blk_drew ?_ | refine blk_alloc ?_ _)); refine blk_put (cs := #[.int .i64 0, .int .i64 0, .string (⟨#[]⟩ : ByteArray), .int .i64 0, .int .i64 0]) ?_ 2 _ rfl; (with_reducible repeat (first | refine blk_drewN ?_ _ | refine blk_drew ?_ | refine blk_alloc ?_ _)); refine blk_put (cs := #[.int .i64 0, .int .i64 0, .string (⟨#[]⟩ : ByteArray), .int .i64 0, .int .i64 0]) ?_ 1 _ rfl; (with_reducible repeat (first | refine blk_drewN ?_ _ | refine blk_drew ?_ | refine blk_alloc ?_ _)); refine blk_put (cs := #[.int .i64 0, .int .i64 0, .string (⟨#[]⟩ : ByteArray), .int .i64 0, .int .i64 0]) ?_ 0 _ rfl; (with_reducible repeat (first | refine blk_drewN ?_ _ | refine blk_drew ?_ | refine blk_alloc ?_ _)); exact BK166.out) Tryz.underlying38 rfl (by kernel_rfl)) rfl ?_
       exact ⟨by first | rfl | (simp [errW_none, errW_some] <;> rfl) | (simp [*, errW_none, errW_some] <;> rfl), by repeat (first | (with_reducible first | exact HB.out | apply below_alloc | apply pw_below_drewN | apply below_drew1 | refine below_set ?_ GE166.out) | exact HB.out)⟩
      ·replace c14 := Bool.eq_false_iff.mpr c14
       subst c14
       have H1 : (if x6_1 < (a0.size : Int) then (if 0 ≤ x6_1 then ((madrigalref01_letter.f (bt a0 x6_1)).bind fun t168 => (if t168 = true then (some (0, 0, (⟨#[]⟩ : ByteArray), 0, 0, false)) else (if (bt a0 x6_1) = 39 then (some (0, 0, (⟨#[]⟩ : ByteArray), 0, 0, false)) else (some (3, x7_1, (⟨#[]⟩ : ByteArray), a1, x6_1, true))))) else (none)) else (some (3, x7_1, (⟨#[]⟩ : ByteArray), a1, x6_1, true))) = some (r1, r2, r3, r4, r5, r6) := by rw [if_neg (show ¬ (false = true) by decide)] at H; exact H
       clear H
       have H := H1
       clear H1
       by_cases c16 : x6_1 < (a0.size : Int)
       ·rw [if_pos c16] at H
        have c16b0 : decide (x6_1 < (a0.size : Int)) = true := decide_eq_true c16
        clear c16
        by_cases c17 : 0 ≤ x6_1
        ·rw [if_pos c17] at H
         have c17b0 : decide (0 ≤ x6_1) = true := decide_eq_true c17
         clear c17
         replace H := Option.bind_eq_some_iff.mp H
         obtain ⟨t168, A190, H⟩ := H
         replace H : (if t168 = true then (some (0, 0, (⟨#[]⟩ : ByteArray), 0, 0, false)) else (if (bt a0 x6_1) = 39 then (some (0, 0, (⟨#[]⟩ : ByteArray), 0, 0, false)) else (some (3, x7_1, (⟨#[]⟩ : ByteArray), a1, x6_1, true)))) = some (r1, r2, r3, r4, r5, r6) := H
         have A19 := Aside0.mk A190
         clear A190
         by_cases c20 : t168 = true
         ·subst c20
          have H1 : (some (0, 0, (⟨#[]⟩ : ByteArray), 0, 0, false)) = some (r1, r2, r3, r4, r5, r6) := by rw [if_pos rfl] at H; exact H
          clear H
          have H := H1
          clear H1
          simp only [Option.some.injEq, Prod.mk.injEq] at H
          obtain ⟨rfl, rfl, rfl, rfl, rfl, rfl⟩ := H
          have p18 : 0 ≤ (x6_1 : Int) := of_decide_eq_true (by first | (with_reducible assumption) | assumption)
          have q18 : x6_1 < (a0.size : Int) := of_decide_eq_true (by first | (with_reducible assumption) | assumption)
          have hx18 := bt_at a0 x6_1
          replace p18 := eq_true p18
          replace q18 := eq_true q18
          go_wp2_with (first | (go_at_call 66; (with_reducible refine (madrigalref01_letter.calls (bt a0 x6_1) true _ A19.out).mono ?_); rintro e w' ⟨rfl, ⟨nd, rfl⟩⟩; (try (rw [drewN_self wc]; generalize hq_ : World.drewN wc _ = wc; have n0_ : Aside0 (wc.heap[gb166]? = some (.cells #[.int .i64 0, .int .i64 0, .string (⟨#[]⟩ : ByteArray), .int .i64 0, .int .i64 0] 38 (0, 0))) := ⟨by rw [← hq_]; exact (by (with_reducible repeat (first | refine blk_drewN ?_ _ | refine blk_drew ?_ | refine blk_alloc ?_ _)); exact BK166.out)⟩; have n1_ : Aside0 (Below w.heap.size w wc) := ⟨by rw [← hq_]; exact (by repeat (first | (with_reducible first | exact HB.out | apply below_alloc | apply pw_below_drewN | apply below_drew1 | refine below_set ?_ GE166.out) | exact HB.out))⟩; clear BK166 HB hq_; have BK166 := n0_; have HB := n1_; clear n0_ n1_)); have hcz21_0 : wc.cell? ⟨gb166, 0, none⟩ = some (.int .i64 0) := (blk_cell BK166.out 0).trans rfl; have hcz21_1 : wc.cell? ⟨gb166, 1, none⟩ = some (.int .i64 0) := (blk_cell BK166.out 1).trans rfl; have hcz21_2 : wc.cell? ⟨gb166, 2, none⟩ = some (.string (⟨#[]⟩ : ByteArray)) := (blk_cell BK166.out 2).trans rfl; have hcz21_3 : wc.cell? ⟨gb166, 3, none⟩ = some (.int .i64 0) := (blk_cell BK166.out 3).trans rfl; have hcz21_4 : wc.cell? ⟨gb166, 4, none⟩ = some (.int .i64 0) := (blk_cell BK166.out 4).trans rfl; have hfz21_0 := blk_frozen BK166.out 0; have hfz21_1 := blk_frozen BK166.out 1; have hfz21_2 := blk_frozen BK166.out 2; have hfz21_3 := blk_frozen BK166.out 3; have hfz21_4 := blk_frozen BK166.out 4))
          refine bodyPost_ret (results_ct rfl _ _ gb166 38 #[.int .i64 0, .int .i64 0, .string (⟨#[]⟩ : ByteArray), .int .i64 0, .int .i64 0] (0, 0) _ rfl (by (with_reducible repeat (first | refine blk_drewN ?_ _ | refine blk_drew ?_ | refine blk_alloc ?_ _)); refine blk_put (cs := #[.int .i64 0, .int .i64 0, .string (⟨#[]⟩ : ByteArray), .int .i64 0, .int .i64 0]) ?_ 4 _ rfl; (with_reducible repeat (first | refine blk_drewN ?_ _ | refine blk_drew ?_ | refine blk_alloc ?_ _)); refine blk_put (cs := #[.int .i64 0, .int .i64 0, .string (⟨#[]⟩ : ByteArray), .int .i64 0, .int .i64 0]) ?_ 3 _ rfl; (with_reducible repeat (first | refine blk_drewN ?_ _ | refine blk_drew ?_ | refine blk_alloc ?_ _)); refine blk_put (cs := #[.int .i64 0, .int .i64 0, .string (⟨#[]⟩ : ByteArray), .int .i64 0, .int .i64 0]) ?_ 2 _ rfl; (with_reducible repeat (first | refine blk_drewN ?_ _ | refine blk_drew ?_ | refine blk_alloc ?_ _)); refine blk_put (cs := #[.int .i64 0, .int .i64 0, .string (⟨#[]⟩ : ByteArray), .int .i64 0, .int .i64 0]) ?_ 1 _ rfl; (with_reducible repeat (first | refine blk_drewN ?_ _ | refine blk_drew ?_ | refine blk_alloc ?_ _)); refine blk_put (cs := #[.int .i64 0, .int .i64 0, .string (⟨#[]⟩ : ByteArray), .int .i64 0, .int .i64 0]) ?_ 0 _ rfl; (with_reducible repeat (first | refine blk_drewN ?_ _ | refine blk_drew ?_ | refine blk_alloc ?_ _)); exact BK166.out) Tryz.underlying38 rfl (by kernel_rfl)) rfl ?_
          exact ⟨by first | rfl | (simp [errW_none, errW_some] <;> rfl) | (simp [*, errW_none, errW_some] <;> rfl), by repeat (first | (with_reducible first | exact HB.out | apply below_alloc | apply pw_below_drewN | apply below_drew1 | refine below_set ?_ GE166.out) | exact HB.out)⟩
         ·replace c20 := Bool.eq_false_iff.mpr c20
          subst c20
          have H1 : (if (bt a0 x6_1) = 39 then (some (0, 0, (⟨#[]⟩ : ByteArray), 0, 0, false)) else (some (3, x7_1, (⟨#[]⟩ : ByteArray), a1, x6_1, true))) = some (r1, r2, r3, r4, r5, r6) := by rw [if_neg (show ¬ (false = true) by decide)] at H; exact H
          clear H
          have H := H1
          clear H1
          by_cases c23 : (bt a0 x6_1) = 39
          ·rw [if_pos c23] at H
           have c23b0 : ((bt a0 x6_1) == 39) = true := beq_iff_eq.mpr c23
           have c23b1 : ((bt a0 x6_1) != 39) = false := bne_eq_false_iff_eq.mpr c23
           clear c23
           simp only [Option.some.injEq, Prod.mk.injEq] at H
           obtain ⟨rfl, rfl, rfl, rfl, rfl, rfl⟩ := H
           have p18 : 0 ≤ (x6_1 : Int) := of_decide_eq_true (by first | (with_reducible assumption) | assumption)
           have q18 : x6_1 < (a0.size : Int) := of_decide_eq_true (by first | (with_reducible assumption) | assumption)
           have hx18 := bt_at a0 x6_1
           replace p18 := eq_true p18
           replace q18 := eq_true q18
           go_wp2_with (first | (go_at_call 66; (with_reducible refine (madrigalref01_letter.calls (bt a0 x6_1) false _ A19.out).mono ?_); rintro e w' ⟨rfl, ⟨nd, rfl⟩⟩; (try (rw [drewN_self wc]; generalize hq_ : World.drewN wc _ = wc; have n0_ : Aside0 (wc.heap[gb166]? = some (.cells #[.int .i64 0, .int .i64 0, .string (⟨#[]⟩ : ByteArray), .int .i64 0, .int .i64 0] 38 (0, 0))) := ⟨by rw [← hq_]; exact (by (with_reducible repeat (first | refine blk_drewN ?_ _ | refine blk_drew ?_ | refine blk_alloc ?_ _)); exact BK166.out)⟩; have n1_ : Aside0 (Below w.heap.size w wc) := ⟨by rw [← hq_]; exact (by repeat (first | (with_reducible first | exact HB.out | apply below_alloc | apply pw_below_drewN | apply below_drew1 | refine below_set ?_ GE166.out) | exact HB.out))⟩; clear BK166 HB hq_; have BK166 := n0_; have HB := n1_; clear n0_ n1_)); have p22 : 0 ≤ (x6_1 : Int) := of_decide_eq_true (by first | (with_reducible assumption) | assumption); have q22 : x6_1 < (a0.size : Int) := of_decide_eq_true (by first | (with_reducible assumption) | assumption); have hx22 := bt_at a0 x6_1; replace p22 := eq_true p22; replace q22 := eq_true q22; have hcz24_0 : wc.cell? ⟨gb166, 0, none⟩ = some (.int .i64 0) := (blk_cell BK166.out 0).trans rfl; have hcz24_1 : wc.cell? ⟨gb166, 1, none⟩ = some (.int .i64 0) := (blk_cell BK166.out 1).trans rfl; have hcz24_2 : wc.cell? ⟨gb166, 2, none⟩ = some (.string (⟨#[]⟩ : ByteArray)) := (blk_cell BK166.out 2).trans rfl; have hcz24_3 : wc.cell? ⟨gb166, 3, none⟩ = some (.int .i64 0) := (blk_cell BK166.out 3).trans rfl; have hcz24_4 : wc.cell? ⟨gb166, 4, none⟩ = some (.int .i64 0) := (blk_cell BK166.out 4).trans rfl; have hfz24_0 := blk_frozen BK166.out 0; have hfz24_1 := blk_frozen BK166.out 1; have hfz24_2 := blk_frozen BK166.out 2; have hfz24_3 := blk_frozen BK166.out 3; have hfz24_4 := blk_frozen BK166.out 4))
           refine bodyPost_ret (results_ct rfl _ _ gb166 38 #[.int .i64 0, .int .i64 0, .string (⟨#[]⟩ : ByteArray), .int .i64 0, .int .i64 0] (0, 0) _ rfl (by (with_reducible repeat (first | refine blk_drewN ?_ _ | refine blk_drew ?_ | refine blk_alloc ?_ _)); refine blk_put (cs := #[.int .i64 0, .int .i64 0, .string (⟨#[]⟩ : ByteArray), .int .i64 0, .int .i64 0]) ?_ 4 _ rfl; (with_reducible repeat (first | refine blk_drewN ?_ _ | refine blk_drew ?_ | refine blk_alloc ?_ _)); refine blk_put (cs := #[.int .i64 0, .int .i64 0, .string (⟨#[]⟩ : ByteArray), .int .i64 0, .int .i64 0]) ?_ 3 _ rfl; (with_reducible repeat (first | refine blk_drewN ?_ _ | refine blk_drew ?_ | refine blk_alloc ?_ _)); refine blk_put (cs := #[.int .i64 0, .int .i64 0, .string (⟨#[]⟩ : ByteArray), .int .i64 0, .int .i64 0]) ?_ 2 _ rfl; (with_reducible repeat (first | refine blk_drewN ?_ _ | refine blk_drew ?_ | refine blk_alloc ?_ _)); refine blk_put (cs := #[.int .i64 0, .int .i64 0, .string (⟨#[]⟩ : ByteArray), .int .i64 0, .int .i64 0]) ?_ 1 _ rfl; (with_reducible repeat (first | refine blk_drewN ?_ _ | refine blk_drew ?_ | refine blk_alloc ?_ _)); refine blk_put (cs := #[.int .i64 0, .int .i64 0, .string (⟨#[]⟩ : ByteArray), .int .i64 0, .int .i64 0]) ?_ 0 _ rfl; (with_reducible repeat (first | refine blk_drewN ?_ _ | refine blk_drew ?_ | refine blk_alloc ?_ _)); exact BK166.out) Tryz.underlying38 rfl (by kernel_rfl)) rfl ?_
           exact ⟨by first | rfl | (simp [errW_none, errW_some] <;> rfl) | (simp [*, errW_none, errW_some] <;> rfl), by repeat (first | (with_reducible first | exact HB.out | apply below_alloc | apply pw_below_drewN | apply below_drew1 | refine below_set ?_ GE166.out) | exact HB.out)⟩
          ·rw [if_neg c23] at H
           have c23b0 : ((bt a0 x6_1) == 39) = false := beq_eq_false_iff_ne.mpr c23
           have c23b1 : ((bt a0 x6_1) != 39) = true := bne_iff_ne.mpr c23
           simp only [Option.some.injEq, Prod.mk.injEq] at H
           obtain ⟨rfl, rfl, rfl, rfl, rfl, rfl⟩ := H
           have p18 : 0 ≤ (x6_1 : Int) := of_decide_eq_true (by first | (with_reducible assumption) | assumption)
           have q18 : x6_1 < (a0.size : Int) := of_decide_eq_true (by first | (with_reducible assumption) | assumption)
           have hx18 := bt_at a0 x6_1
           replace p18 := eq_true p18
           replace q18 := eq_true q18
           go_wp2_with (first | (go_at_call 66; (with_reducible refine (madrigalref01_letter.calls (bt a0 x6_1) false _ A19.out).mono ?_); rintro e w' ⟨rfl, ⟨nd, rfl⟩⟩; (try (rw [drewN_self wc]; generalize hq_ : World.drewN wc _ = wc; have n0_ : Aside0 (wc.heap[gb166]? = some (.cells #[.int .i64 0, .int .i64 0, .string (⟨#[]⟩ : ByteArray), .int .i64 0, .int .i64 0] 38 (0, 0))) := ⟨by rw [← hq_]; exact (by (with_reducible repeat (first | refine blk_drewN ?_ _ | refine blk_drew ?_ | refine blk_alloc ?_ _)); exact BK166.out)⟩; have n1_ : Aside0 (Below w.heap.size w wc) := ⟨by rw [← hq_]; exact (by repeat (first | (with_reducible first | exact HB.out | apply below_alloc | apply pw_below_drewN | apply below_drew1 | refine below_set ?_ GE166.out) | exact HB.out))⟩; clear BK166 HB hq_; have BK166 := n0_; have HB := n1_; clear n0_ n1_)); have p22 : 0 ≤ (x6_1 : Int) := of_decide_eq_true (by first | (with_reducible assumption) | assumption); have q22 : x6_1 < (a0.size : Int) := of_decide_eq_true (by first | (with_reducible assumption) | assumption); have hx22 := bt_at a0 x6_1; replace p22 := eq_true p22; replace q22 := eq_true q22; have hcz25_0 : wc.cell? ⟨gb166, 0, none⟩ = some (.int .i64 0) := (blk_cell BK166.out 0).trans rfl; have hcz25_1 : wc.cell? ⟨gb166, 1, none⟩ = some (.int .i64 0) := (blk_cell BK166.out 1).trans rfl; have hcz25_2 : wc.cell? ⟨gb166, 2, none⟩ = some (.string (⟨#[]⟩ : ByteArray)) := (blk_cell BK166.out 2).trans rfl; have hcz25_3 : wc.cell? ⟨gb166, 3, none⟩ = some (.int .i64 0) := (blk_cell BK166.out 3).trans rfl; have hcz25_4 : wc.cell? ⟨gb166, 4, none⟩ = some (.int .i64 0) := (blk_cell BK166.out 4).trans rfl; have hfz25_0 := blk_frozen BK166.out 0; have hfz25_1 := blk_frozen BK166.out 1; have hfz25_2 := blk_frozen BK166.out 2; have hfz25_3 := blk_frozen BK166.out 3; have hfz25_4 := blk_frozen BK166.out 4))
           refine bodyPost_ret (results_ct rfl _ _ gb166 38 #[.int .i64 3, .int .i64 x7_1, .string (⟨#[]⟩ : ByteArray), .int .i64 a1, .int .i64 x6_1] (0, 0) _ rfl (by (with_reducible repeat (first | refine blk_drewN ?_ _ | refine blk_drew ?_ | refine blk_alloc ?_ _)); refine blk_put (cs := #[.int .i64 3, .int .i64 x7_1, .string (⟨#[]⟩ : ByteArray), .int .i64 a1, .int .i64 0]) ?_ 4 _ rfl; (with_reducible repeat (first | refine blk_drewN ?_ _ | refine blk_drew ?_ | refine blk_alloc ?_ _)); refine blk_put (cs := #[.int .i64 3, .int .i64 x7_1, .string (⟨#[]⟩ : ByteArray), .int .i64 0, .int .i64 0]) ?_ 3 _ rfl; (with_reducible repeat (first | refine blk_drewN ?_ _ | refine blk_drew ?_ | refine blk_alloc ?_ _)); refine blk_put (cs := #[.int .i64 3, .int .i64 x7_1, .string (⟨#[]⟩ : ByteArray), .int .i64 0, .int .i64 0]) ?_ 2 _ rfl; (with_reducible repeat (first | refine blk_drewN ?_ _ | refine blk_drew ?_ | refine blk_alloc ?_ _)); refine blk_put (cs := #[.int .i64 3, .int .i64 0, .string (⟨#[]⟩ : ByteArray), .int .i64 0, .int .i64 0]) ?_ 1 _ rfl; (with_reducible repeat (first | refine blk_drewN ?_ _ | refine blk_drew ?_ | refine blk_alloc ?_ _)); refine blk_put (cs := #[.int .i64 0, .int .i64 0, .string (⟨#[]⟩ : ByteArray), .int .i64 0, .int .i64 0]) ?_ 0 _ rfl; (with_reducible repeat (first | refine blk_drewN ?_ _ | refine blk_drew ?_ | refine blk_alloc ?_ _)); exact BK166.out) Tryz.underlying38 rfl (by kernel_rfl)) rfl ?_
           exact ⟨by first | rfl | (simp [errW_none, errW_some] <;> rfl) | (simp [*, errW_none, errW_some] <;> rfl), by repeat (first | (with_reducible first | exact HB.out | apply below_alloc | apply pw_below_drewN | apply below_drew1 | refine below_set ?_ GE166.out) | exact HB.out)⟩
        ·rw [if_neg c17] at H
         exact absurd H (by simp)
       ·rw [if_neg c16] at H
        have c16b0 : decide (x6_1 < (a0.size : Int)) = false := decide_eq_false c16
        clear c16
        simp only [Option.some.injEq, Prod.mk.injEq] at H
        obtain ⟨rfl, rfl, rfl, rfl, rfl, rfl⟩ := H
        have hcz26_0 : wc.cell? ⟨gb166, 0, none⟩ = some (.int .i64 0) := (blk_cell BK166.out 0).trans rfl
        have hcz26_1 : wc.cell? ⟨gb166, 1, none⟩ = some (.int .i64 0) := (blk_cell BK166.out 1).trans rfl
        have hcz26_2 : wc.cell? ⟨gb166, 2, none⟩ = some (.string (⟨#[]⟩ : ByteArray)) := (blk_cell BK166.out 2).trans rfl
        have hcz26_3 : wc.cell? ⟨gb166, 3, none⟩ = some (.int .i64 0) := (blk_cell BK166.out 3).trans rfl
        have hcz26_4 : wc.cell? ⟨gb166, 4, none⟩ = some (.int .i64 0) := (blk_cell BK166.out 4).trans rfl
        have hfz26_0 := blk_frozen BK166.out 0
        have hfz26_1 := blk_frozen BK166.out 1
        have hfz26_2 := blk_frozen BK166.out 2
        have hfz26_3 := blk_frozen BK166.out 3
        have hfz26_4 := blk_frozen BK166.out 4
        go_wp2
        refine bodyPost_ret (results_ct rfl _ _ gb166 38 #[.int .i64 3, .int .i64 x7_1, .string (⟨#[]⟩ : ByteArray), .int .i64 a1, .int .i64 x6_1] (0, 0) _ rfl (by (with_reducible repeat (first | refine blk_drewN ?_ _ | refine blk_drew ?_ | refine blk_alloc ?_ _)); refine blk_put (cs := #[.int .i64 3, .int .i64 x7_1, .string (⟨#[]⟩ : ByteArray), .int .i64 a1, .int .i64 0]) ?_ 4 _ rfl; (with_reducible repeat (first | refine blk_drewN ?_ _ | refine blk_drew ?_ | refine blk_alloc ?_ _)); refine blk_put (cs := #[.int .i64 3, .int .i64 x7_1, .string (⟨#[]⟩ : ByteArray), .int .i64 0, .int .i64 0]) ?_ 3 _ rfl; (with_reducible repeat (first | refine blk_drewN ?_ _ | refine blk_drew ?_ | refine blk_alloc ?_ _)); refine blk_put (cs := #[.int .i64 3, .int .i64 x7_1, .string (⟨#[]⟩ : ByteArray), .int .i64 0, .int .i64 0]) ?_ 2 _ rfl; (with_reducible repeat (first | refine blk_drewN ?_ _ | refine blk_drew ?_ | refine blk_alloc ?_ _)); refine blk_put (cs := #[.int .i64 3, .int .i64 0, .string (⟨#[]⟩ : ByteArray), .int .i64 0, .int .i64 0]) ?_ 1 _ rfl; (with_reducible repeat (first | refine blk_drewN ?_ _ | refine blk_drew ?_ | refine blk_alloc ?_ _)); refine blk_put (cs := #[.int .i64 0, .int .i64 0, .string (⟨#[]⟩ : ByteArray), .int .i64 0, .int .i64 0]) ?_ 0 _ rfl; (with_reducible repeat (first | refine blk_drewN ?_ _ | refine blk_drew ?_ | refine blk_alloc ?_ _)); exact BK166.out) Tryz.underlying38 rfl (by kernel_rfl)) rfl ?_
        exact ⟨by first | rfl | (simp [errW_none, errW_some] <;> rfl) | (simp [*, errW_none, errW_some] <;> rfl), by repeat (first | (with_reducible first | exact HB.out | apply below_alloc | apply pw_below_drewN | apply below_drew1 | refine below_set ?_ GE166.out) | exact HB.out)⟩

/-! ### madrigalref01_Symbol: function 72 -/
def madrigalref01_Symbol.l0 : Nat → Int → ByteArray → Int → Option (Bool)
 | 0, _, _, _ => none
 | k + 1, x0, x3, x4 => if x4 < (x3.size : Int) then (if 0 ≤ x4 then (if (bt x3 x4) = x0 then (some true) else (madrigalref01_Symbol.l0 k x0 x3 (wrap64 (x4 + 1)))) else (none)) else (some false)
def madrigalref01_Symbol.f (k : Nat) (a0 : Int) : Option (Bool) := madrigalref01_Symbol.l0 k a0 (⟨#[35, 36, 37, 38, 42, 43, 45, 46, 47, 60, 61, 62, 64, 92, 94, 126]⟩ : ByteArray) 0
theorem madrigalref01_Symbol.mono_l : ∀ k, (∀ y0 y1 y2, LeO (madrigalref01_Symbol.l0 k y0 y1 y2) (madrigalref01_Symbol.l0 (k + 1) y0 y1 y2))
 | 0 => fun _ _ _ r h => by simp [madrigalref01_Symbol.l0] at h
 | k + 1 => by
  have ih0 := madrigalref01_Symbol.mono_l k
  ·intro y0 y1 y2
   unfold madrigalref01_Symbol.l0
   repeat' first
   | (with_reducible exact ih0 _ _ _)
   | (with_reducible exact LeO.refl _)
   | (with_reducible exact LeO.none _)
   | (with_reducible refine LeO.ite ?_ ?_)
   | (with_reducible refine LeO.bind ?_ (fun _ => ?_))
   | exact ih0 _ _ _
   | exact LeO.none _
   | refine LeO.ite ?_ ?_
   | refine LeO.bind ?_ (fun _ => ?_)
theorem madrigalref01_Symbol.mono : ∀ a0 k, LeO (madrigalref01_Symbol.f k a0) (madrigalref01_Symbol.f (k + 1) a0) := by
 intro a0 k
 have ih0 := madrigalref01_Symbol.mono_l k
 unfold madrigalref01_Symbol.f
 repeat' first
   | (with_reducible exact ih0 _ _ _)
   | (with_reducible exact LeO.refl _)
   | (with_reducible exact LeO.none _)
   | (with_reducible refine LeO.ite ?_ ?_)
   | (with_reducible refine LeO.bind ?_ (fun _ => ?_))
   | exact ih0 _ _ _
   | exact LeO.none _
   | refine LeO.ite ?_ ?_
   | refine LeO.bind ?_ (fun _ => ?_)
set_option maxHeartbeats 8000000 in
set_option maxRecDepth 100000 in
theorem madrigalref01_Symbol.calls (k : Nat) (a0 : Int) (r : Bool) (w : World) (h : madrigalref01_Symbol.f k a0 = some r) :
  Calls Tryz.prog 72 #[.int .u8 a0] w fun e w' => e = .returned (.bool r) ∧ Drawn0 w w' := by
 have H : (madrigalref01_Symbol.l0 k a0 (⟨#[35, 36, 37, 38, 42, 43, 45, 46, 47, 60, 61, 62, 64, 92, 94, 126]⟩ : ByteArray) 0) = some r := h
 clear h
 have H' := Aside0.mk H
 clear H
 go_enter Tryz.func72, Tryz.ntmps72
 go_wp2
 go_loopg [4] k (fun kq v4 w' => ∃ (x4_1 : Int), v4 = .int .i64 x4_1 ∧ Aside0 (madrigalref01_Symbol.l0 kq a0 (⟨#[35, 36, 37, 38, 42, 43, 45, 46, 47, 60, 61, 62, 64, 92, 94, 126]⟩ : ByteArray) x4_1 = some r) ∧ Aside0 (kq ≤ k) ∧ Drawn0 w w')
 case atStart => exact ⟨(0), (by first | rfl | (simp; done) | (simp [*]; done)), H', ⟨Nat.le_refl _⟩, by repeat (first | exact Drawn0.refl _ | apply Drawn0.step)⟩
 case round =>
  clear H'
  obtain ⟨x4_1, rfl, HA, HK1, ⟨m1, rfl⟩⟩ := hrel
  cases gk with
  | zero => exact absurd HA.out (by simp [madrigalref01_Symbol.l0])
  | succ k1 =>
   have H := HA.out
   clear HA
   simp only [madrigalref01_Symbol.l0] at H
   by_cases c2 : x4_1 < ((⟨#[35, 36, 37, 38, 42, 43, 45, 46, 47, 60, 61, 62, 64, 92, 94, 126]⟩ : ByteArray).size : Int)
   ·rw [if_pos c2] at H
    have c2b0 : decide (x4_1 < ((⟨#[35, 36, 37, 38, 42, 43, 45, 46, 47, 60, 61, 62, 64, 92, 94, 126]⟩ : ByteArray).size : Int)) = true := decide_eq_true c2
    clear c2
    by_cases c3 : 0 ≤ x4_1
    ·rw [if_pos c3] at H
     have c3b0 : decide (0 ≤ x4_1) = true := decide_eq_true c3
     clear c3
     by_cases c5 : (bt (⟨#[35, 36, 37, 38, 42, 43, 45, 46, 47, 60, 61, 62, 64, 92, 94, 126]⟩ : ByteArray) x4_1) = a0
     ·rw [if_pos c5] at H
      have c5b0 : ((bt (⟨#[35, 36, 37, 38, 42, 43, 45, 46, 47, 60, 61, 62, 64, 92, 94, 126]⟩ : ByteArray) x4_1) == a0) = true := beq_iff_eq.mpr c5
      have c5b1 : ((bt (⟨#[35, 36, 37, 38, 42, 43, 45, 46, 47, 60, 61, 62, 64, 92, 94, 126]⟩ : ByteArray) x4_1) != a0) = false := bne_eq_false_iff_eq.mpr c5
      clear c5
      obtain rfl := Option.some.inj H
      have p4 : 0 ≤ (x4_1 : Int) := of_decide_eq_true (by first | (with_reducible assumption) | assumption)
      have q4 : x4_1 < (16 : Int) := of_decide_eq_true (by first | (with_reducible assumption) | assumption)
      have hx4 := bt_at (⟨#[35, 36, 37, 38, 42, 43, 45, 46, 47, 60, 61, 62, 64, 92, 94, 126]⟩ : ByteArray) x4_1
      replace p4 := eq_true p4
      replace q4 := eq_true q4
      go_wp2
      go_ret
      exact ⟨by first | rfl | (simp; done) | (simp [*]; done), by repeat (first | exact Drawn0.refl _ | apply Drawn0.step)⟩
     ·rw [if_neg c5] at H
      have c5b0 : ((bt (⟨#[35, 36, 37, 38, 42, 43, 45, 46, 47, 60, 61, 62, 64, 92, 94, 126]⟩ : ByteArray) x4_1) == a0) = false := beq_eq_false_iff_ne.mpr c5
      have c5b1 : ((bt (⟨#[35, 36, 37, 38, 42, 43, 45, 46, 47, 60, 61, 62, 64, 92, 94, 126]⟩ : ByteArray) x4_1) != a0) = true := bne_iff_ne.mpr c5
      have H' := Aside0.mk H
      clear H
      have p4 : 0 ≤ (x4_1 : Int) := of_decide_eq_true (by first | (with_reducible assumption) | assumption)
      have q4 : x4_1 < (16 : Int) := of_decide_eq_true (by first | (with_reducible assumption) | assumption)
      have hx4 := bt_at (⟨#[35, 36, 37, 38, 42, 43, 45, 46, 47, 60, 61, 62, 64, 92, 94, 126]⟩ : ByteArray) x4_1
      replace p4 := eq_true p4
      replace q4 := eq_true q4
      go_wp2
      go_roundg k1
      case measure => have := HK1.out; omega
      case rel => exact ⟨(wrap64 (x4_1 + 1)), (by first | rfl | (simp; done) | (simp [*]; done)), H', ⟨by have := HK1.out; omega⟩, by repeat (first | exact Drawn0.refl _ | apply Drawn0.step)⟩
    ·rw [if_neg c3] at H
     exact absurd H (by simp)
   ·rw [if_neg c2] at H
    have c2b0 : decide (x4_1 < ((⟨#[35, 36, 37, 38, 42, 43, 45, 46, 47, 60, 61, 62, 64, 92, 94, 126]⟩ : ByteArray).size : Int)) = false := decide_eq_false c2
    have c2b9 : decide (x4_1 < (16 : Int)) = false := decide_eq_false c2
    clear c2
    obtain rfl := Option.some.inj H
    go_wp2
    go_ret
    exact ⟨by first | rfl | (simp; done) | (simp [*]; done), by repeat (first | exact Drawn0.refl _ | apply Drawn0.step)⟩
end Go.Proofs.YtglgppkjgodlkaaGreatDoor.P
