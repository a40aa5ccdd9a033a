-- Printed by a program of this session (myprint.py, resplit.py), which drives the kit's printer; Lean checks every row.
import Derived.Test.YtglgppkjgodlkaaGreatDoorP0
import Derived.Test.YtglgppkjgodlkaaGreatDoorP1
import Derived.Test.YtglgppkjgodlkaaGreatDoorG4
namespace Go.Proofs.YtglgppkjgodlkaaGreatDoor.P
open Go.Proofs.YtglgppkjgodlkaaGreatDoorW.PrintLast Go.Proofs.YtglgppkjgodlkaaGreatDoorW.PrintMore Go.Proofs.YtglgppkjgodlkaaGreatDoorW.PrintWords Go.RowKit
attribute [local go_sem] max2_int min2_int max_two min_two max_three min_three max_four min_four   -- for this text's walks alone
set_option linter.unusedVariables false
set_option linter.unusedSimpArgs false
attribute [local go_sem high] eqA38

/-! ### madrigalref01_symbols: function 91 -/
def madrigalref01_symbols.l0 : Nat → ByteArray → Int → Option (Bool)
 | 0, _, _ => none
 | k + 1, x0, x3 => if x3 < (x0.size : Int) then (if 0 ≤ x3 then ((madrigalref01_Symbol.f k (bt x0 x3)).bind fun t169 => (if t169 = true then (madrigalref01_symbols.l0 k x0 (wrap64 (x3 + 1))) else (some false))) else (none)) else (some true)
def madrigalref01_symbols.f (k : Nat) (a0 : ByteArray) : Option (Bool) := madrigalref01_symbols.l0 k a0 0
theorem madrigalref01_symbols.mono_l : ∀ k, (∀ y0 y1, LeO (madrigalref01_symbols.l0 k y0 y1) (madrigalref01_symbols.l0 (k + 1) y0 y1))
 | 0 => fun _ _ r h => by simp [madrigalref01_symbols.l0] at h
 | k + 1 => by
  have ih0 := madrigalref01_symbols.mono_l k
  ·intro y0 y1
   unfold madrigalref01_symbols.l0
   repeat' first
   | (with_reducible exact ih0 _ _)
   | (with_reducible exact madrigalref01_Symbol.mono _ _)
   | (with_reducible exact LeO.refl _)
   | (with_reducible exact LeO.none _)
   | (with_reducible refine LeO.ite ?_ ?_)
   | (with_reducible refine LeO.bind ?_ (fun _ => ?_))
   | exact ih0 _ _
   | exact madrigalref01_Symbol.mono _ _
   | exact LeO.none _
   | refine LeO.ite ?_ ?_
   | refine LeO.bind ?_ (fun _ => ?_)
theorem madrigalref01_symbols.mono : ∀ a0 k, LeO (madrigalref01_symbols.f k a0) (madrigalref01_symbols.f (k + 1) a0) := by
 intro a0 k
 have ih0 := madrigalref01_symbols.mono_l k
 unfold madrigalref01_symbols.f
 repeat' first
   | (with_reducible exact ih0 _ _)
   | (with_reducible exact madrigalref01_Symbol.mono _ _)
   | (with_reducible exact LeO.refl _)
   | (with_reducible exact LeO.none _)
   | (with_reducible refine LeO.ite ?_ ?_)
   | (with_reducible refine LeO.bind ?_ (fun _ => ?_))
   | exact ih0 _ _
   | exact madrigalref01_Symbol.mono _ _
   | exact LeO.none _
   | refine LeO.ite ?_ ?_
   | refine LeO.bind ?_ (fun _ => ?_)
set_option maxHeartbeats 8000000 in
set_option maxRecDepth 100000 in
theorem madrigalref01_symbols.calls (k : Nat) (a0 : ByteArray) (r : Bool) (w : World) (h : madrigalref01_symbols.f k a0 = some r) :
  Calls Tryz.prog 91 #[.string a0] w fun e w' => e = .returned (.bool r) ∧ Drawn0 w w' := by
 have H : (madrigalref01_symbols.l0 k a0 0) = some r := h
 clear h
 have H' := Aside0.mk H
 clear H
 go_enter Tryz.func91, Tryz.ntmps91
 go_wp2
 go_loopg [3] k (fun kq v3 w' => ∃ (x3_1 : Int), v3 = .int .i64 x3_1 ∧ Aside0 (madrigalref01_symbols.l0 kq a0 x3_1 = some r) ∧ Aside0 (kq ≤ k) ∧ Drawn0 w w')
 case atStart => exact ⟨(0), (by first | rfl | (simp; done) | (simp [*]; done)), H', ⟨Nat.le_refl _⟩, by repeat (first | exact Drawn0.refl _ | apply Drawn0.step)⟩
 case round =>
  clear H'
  obtain ⟨x3_1, rfl, HA, HK1, ⟨m1, rfl⟩⟩ := hrel
  cases gk with
  | zero => exact absurd HA.out (by simp [madrigalref01_symbols.l0])
  | succ k1 =>
   have H := HA.out
   clear HA
   simp only [madrigalref01_symbols.l0] at H
   by_cases c2 : x3_1 < (a0.size : Int)
   ·rw [if_pos c2] at H
    have c2b0 : decide (x3_1 < (a0.size : Int)) = true := decide_eq_true c2
    clear c2
    by_cases c3 : 0 ≤ x3_1
    ·rw [if_pos c3] at H
     have c3b0 : decide (0 ≤ x3_1) = true := decide_eq_true c3
     clear c3
     replace H := Option.bind_eq_some_iff.mp H
     obtain ⟨t169, A50, H⟩ := H
     replace H : (if t169 = true then (madrigalref01_symbols.l0 k1 a0 (wrap64 (x3_1 + 1))) else (some false)) = some r := H
     have A5 := Aside0.mk A50
     clear A50
     by_cases c6 : t169 = true
     ·subst c6
      have H1 : (madrigalref01_symbols.l0 k1 a0 (wrap64 (x3_1 + 1))) = some r := by rw [if_pos rfl] at H; exact H
      clear H
      have H := H1
      clear H1
      have H' := Aside0.mk H
      clear H
      have p4 : 0 ≤ (x3_1 : Int) := of_decide_eq_true (by first | (with_reducible assumption) | assumption)
      have q4 : x3_1 < (a0.size : Int) := of_decide_eq_true (by first | (with_reducible assumption) | assumption)
      have hx4 := bt_at a0 x3_1
      replace p4 := eq_true p4
      replace q4 := eq_true q4
      go_wp2_with (first | ((with_reducible refine gate_callee (f := 72) rfl ?_); refine goesL_ (some 13) rfl rfl Tryz.func72 (by kernel_rfl) rfl #[.int .u8 (bt a0 x3_1)] rfl (by (try simp only [List.map_toArray, List.map_cons, List.map_nil]); first | done | rfl | (simp only [List.length_drop, List.length_take]; rfl)) ?_; (with_reducible refine (madrigalref01_Symbol.calls k1 (bt a0 x3_1) true _ A5.out).mono ?_); rintro e w' ⟨rfl, ⟨nd, rfl⟩⟩; refine ⟨_, rfl, ?_⟩))
      go_roundg k1
      case measure => have := HK1.out; omega
      case rel => exact ⟨(wrap64 (x3_1 + 1)), (by first | rfl | (simp; done) | (simp [*]; done)), H', ⟨by have := HK1.out; omega⟩, by repeat (first | exact Drawn0.refl _ | apply Drawn0.step)⟩
     ·replace c6 := Bool.eq_false_iff.mpr c6
      subst c6
      have H1 : (some false) = some r := by rw [if_neg (show ¬ (false = true) by decide)] at H; exact H
      clear H
      have H := H1
      clear H1
      obtain rfl := Option.some.inj H
      have p4 : 0 ≤ (x3_1 : Int) := of_decide_eq_true (by first | (with_reducible assumption) | assumption)
      have q4 : x3_1 < (a0.size : Int) := of_decide_eq_true (by first | (with_reducible assumption) | assumption)
      have hx4 := bt_at a0 x3_1
      replace p4 := eq_true p4
      replace q4 := eq_true q4
      go_wp2_with (first | ((with_reducible refine gate_callee (f := 72) rfl ?_); refine goesL_ (some 13) rfl rfl Tryz.func72 (by kernel_rfl) rfl #[.int .u8 (bt a0 x3_1)] rfl (by (try simp only [List.map_toArray, List.map_cons, List.map_nil]); first | done | rfl | (simp only [List.length_drop, List.length_take]; rfl)) ?_; (with_reducible refine (madrigalref01_Symbol.calls k1 (bt a0 x3_1) false _ A5.out).mono ?_); rintro e w' ⟨rfl, ⟨nd, rfl⟩⟩; refine ⟨_, rfl, ?_⟩))
      go_ret
      exact ⟨by first | rfl | (simp; done) | (simp [*]; done), by repeat (first | exact Drawn0.refl _ | apply Drawn0.step)⟩
    ·rw [if_neg c3] at H
     exact absurd H (by simp)
   ·rw [if_neg c2] at H
    have c2b0 : decide (x3_1 < (a0.size : Int)) = false := decide_eq_false c2
    clear c2
    obtain rfl := Option.some.inj H
    go_wp2
    go_ret
    exact ⟨by first | rfl | (simp; done) | (simp [*]; done), by repeat (first | exact Drawn0.refl _ | apply Drawn0.step)⟩

/-! ### madrigalref01_sign: function 71 -/
def madrigalref01_sign.l0 : Nat → ByteArray → Int → List ByteArray → ByteArray → Int → Option (ByteArray)
 | 0, _, _, _, _, _ => none
 | k + 1, x0, x1, x5, x6, x7 => if x7 < (x5.length : Int) then (if 0 ≤ x7 then ((madrigalref01_symbols.f k (rdOf ByteArray.empty x5 x7)).bind fun t174 => (if t174 = true then (madrigalref01_sign.l0 k x0 x1 x5 x6 (wrap64 (x7 + 1))) else ((madrigalref01_begins.f x0 x1 (rdOf ByteArray.empty x5 x7)).bind fun t176 => (if t176 = true then (if ((rdOf ByteArray.empty x5 x7).size : Int) > (x6.size : Int) then (madrigalref01_sign.l0 k x0 x1 x5 (rdOf ByteArray.empty x5 x7) (wrap64 (x7 + 1))) else (madrigalref01_sign.l0 k x0 x1 x5 x6 (wrap64 (x7 + 1)))) else (madrigalref01_sign.l0 k x0 x1 x5 x6 (wrap64 (x7 + 1))))))) else (none)) else (some x6)
def madrigalref01_sign.f (k : Nat) (a0 : ByteArray) (a1 : Int) : Option (ByteArray) := (madrigalref01_Signs.f).bind fun t170 => (madrigalref01_sign.l0 k a0 a1 t170 (⟨#[]⟩ : ByteArray) 0)
theorem madrigalref01_sign.mono_l : ∀ k, (∀ y0 y1 y2 y3 y4, LeO (madrigalref01_sign.l0 k y0 y1 y2 y3 y4) (madrigalref01_sign.l0 (k + 1) y0 y1 y2 y3 y4))
 | 0 => fun _ _ _ _ _ r h => by simp [madrigalref01_sign.l0] at h
 | k + 1 => by
  have ih0 := madrigalref01_sign.mono_l k
  ·intro y0 y1 y2 y3 y4
   unfold madrigalref01_sign.l0
   repeat' first
   | (with_reducible exact ih0 _ _ _ _ _)
   | (with_reducible exact madrigalref01_symbols.mono _ _)
   | (with_reducible exact LeO.refl _)
   | (with_reducible exact LeO.none _)
   | (with_reducible refine LeO.ite ?_ ?_)
   | (with_reducible refine LeO.bind ?_ (fun _ => ?_))
   | exact ih0 _ _ _ _ _
   | exact madrigalref01_symbols.mono _ _
   | exact LeO.none _
   | refine LeO.ite ?_ ?_
   | refine LeO.bind ?_ (fun _ => ?_)
theorem madrigalref01_sign.mono : ∀ a0 a1 k, LeO (madrigalref01_sign.f k a0 a1) (madrigalref01_sign.f (k + 1) a0 a1) := by
 intro a0 a1 k
 have ih0 := madrigalref01_sign.mono_l k
 unfold madrigalref01_sign.f
 repeat' first
   | (with_reducible exact ih0 _ _ _ _ _)
   | (with_reducible exact madrigalref01_symbols.mono _ _)
   | (with_reducible exact LeO.refl _)
   | (with_reducible exact LeO.none _)
   | (with_reducible refine LeO.ite ?_ ?_)
   | (with_reducible refine LeO.bind ?_ (fun _ => ?_))
   | exact ih0 _ _ _ _ _
   | exact madrigalref01_symbols.mono _ _
   | exact LeO.none _
   | refine LeO.ite ?_ ?_
   | refine LeO.bind ?_ (fun _ => ?_)
set_option maxHeartbeats 8000000 in
set_option maxRecDepth 100000 in
theorem madrigalref01_sign.calls (k : Nat) (a0 : ByteArray) (a1 : Int) (r : ByteArray) (w : World) (h : madrigalref01_sign.f k a0 a1 = some r) :
  Calls Tryz.prog 71 #[.string a0, .int .i64 a1] w fun e w' => e = .returned (.string r) ∧ Below w.heap.size w w' := by
 have HB := Aside0.mk (Below.refl w.heap.size w)
 have H : ((madrigalref01_Signs.f).bind fun t170 => (madrigalref01_sign.l0 k a0 a1 t170 (⟨#[]⟩ : ByteArray) 0)) = some r := h
 clear h
 replace H := Option.bind_eq_some_iff.mp H
 obtain ⟨t170, A30, H⟩ := H
 replace H : (madrigalref01_sign.l0 k a0 a1 t170 (⟨#[]⟩ : ByteArray) 0) = some r := H
 have A3 := Aside0.mk A30
 clear A30
 have H' := Aside0.mk H
 clear H
 go_enter Tryz.func71, Tryz.ntmps71
 go_wp2_with (first | ((with_reducible refine gate_callee (f := 22) rfl ?_); refine goesL_ (some 8) rfl rfl Tryz.func22 (by kernel_rfl) rfl #[] rfl (by (try simp only [List.map_toArray, List.map_cons, List.map_nil]); first | done | rfl | (simp only [List.length_drop, List.length_take]; rfl)) ?_; (with_reducible refine (madrigalref01_Signs.calls  t170 _ A3.out).mono ?_); rintro e w4 ⟨v171, rfl, ho0, hb⟩; refine ⟨_, rfl, ?_⟩; have n0_ := Aside0.mk (Kd.R_lower ho0 (below_size (by repeat (first | (with_reducible first | exact HB.out | apply below_alloc | apply pw_below_drewN | apply below_drew1) | exact HB.out)))); have n1_ := Aside0.mk (below_step (by repeat (first | (with_reducible first | exact HB.out | apply below_alloc | apply pw_below_drewN | apply below_drew1) | exact HB.out)) hb); clear HB; have HO172 := n0_; have HB := n1_; clear n0_ n1_; (try clear hb); (try clear hb2); (try clear hk); (try clear hi); (try clear ho0)))
 go_loopg [6, 7] k (fun kq v6 v7 w' => ∃ (x6_1 : ByteArray) (x7_1 : Int), v6 = .string x6_1 ∧ v7 = .int .i64 x7_1 ∧ Aside0 (madrigalref01_sign.l0 kq a0 a1 t170 x6_1 x7_1 = some r) ∧ Aside0 (kq ≤ k) ∧ Aside0 (Kd.R Kd.string 9 w' w.heap.size (fun _ => True) v171 t170) ∧ Aside0 (Below w.heap.size w w'))
 case atStart => exact ⟨((⟨#[]⟩ : ByteArray)), (0), (by first | rfl | (simp; done) | (simp [*]; done)), (by first | rfl | (simp; done) | (simp [*]; done)), H', ⟨Nat.le_refl _⟩, ⟨by (with_reducible repeat (first | apply Kd.R_alloc | apply Kd.R_drewN | apply Kd.R_drew)); exact HO172.out⟩, ⟨by repeat (first | (with_reducible first | exact HB.out | apply below_alloc | apply pw_below_drewN | apply below_drew1) | exact HB.out)⟩⟩
 case round =>
  clear H'
  try clear c2
  try clear p2
  obtain ⟨x6_1, x7_1, rfl, rfl, HA, HK1, HO_5, HB⟩ := hrel
  cases gk with
  | zero => exact absurd HA.out (by simp [madrigalref01_sign.l0])
  | succ k1 =>
   have H := HA.out
   clear HA
   simp only [madrigalref01_sign.l0] at H
   by_cases c5 : x7_1 < (t170.length : Int)
   ·rw [if_pos c5] at H
    have c5b0 : decide (x7_1 < (t170.length : Int)) = true := decide_eq_true c5
    clear c5
    by_cases c6 : 0 ≤ x7_1
    ·rw [if_pos c6] at H
     have c6b0 : decide (0 ≤ x7_1) = true := decide_eq_true c6
     clear c6
     replace H := Option.bind_eq_some_iff.mp H
     obtain ⟨t174, A70, H⟩ := H
     replace H : (if t174 = true then (madrigalref01_sign.l0 k1 a0 a1 t170 x6_1 (wrap64 (x7_1 + 1))) else ((madrigalref01_begins.f a0 a1 (rdOf ByteArray.empty t170 x7_1)).bind fun t176 => (if t176 = true then (if ((rdOf ByteArray.empty t170 x7_1).size : Int) > (x6_1.size : Int) then (madrigalref01_sign.l0 k1 a0 a1 t170 (rdOf ByteArray.empty t170 x7_1) (wrap64 (x7_1 + 1))) else (madrigalref01_sign.l0 k1 a0 a1 t170 x6_1 (wrap64 (x7_1 + 1)))) else (madrigalref01_sign.l0 k1 a0 a1 t170 x6_1 (wrap64 (x7_1 + 1)))))) = some r := H
     have A7 := Aside0.mk A70
     clear A70
     by_cases c8 : t174 = true
     ·subst c8
      have H1 : (madrigalref01_sign.l0 k1 a0 a1 t170 x6_1 (wrap64 (x7_1 + 1))) = some r := by rw [if_pos rfl] at H; exact H
      clear H
      have H := H1
      clear H1
      have H' := Aside0.mk H
      clear H
      obtain ⟨Ao9, co9, eo9⟩ := Kd.R_slice HO_5.out
      subst eo9
      have p173 : 0 ≤ (x7_1 : Int) := of_decide_eq_true (by first | (with_reducible assumption) | assumption)
      have q173 : x7_1 < (t170.length : Int) := of_decide_eq_true (by first | (with_reducible assumption) | assumption)
      obtain ⟨ad173, e173, hx173_0⟩ := Kd.at_string (Kd.R_reads' HO_5.out).2.2 x7_1 p173 q173
      cases e173
      replace p173 := eq_true p173
      replace q173 := eq_true q173
      go_wp2_with (first | ((with_reducible refine gate_callee (f := 91) rfl ?_); refine goesL_ (some 19) rfl rfl Tryz.func91 (by kernel_rfl) rfl #[.string (rdOf ByteArray.empty t170 x7_1)] rfl (by (try simp only [List.map_toArray, List.map_cons, List.map_nil]); first | done | rfl | (simp only [List.length_drop, List.length_take]; rfl)) ?_; (with_reducible refine (madrigalref01_symbols.calls k1 (rdOf ByteArray.empty t170 x7_1) true _ A7.out).mono ?_); rintro e w' ⟨rfl, ⟨nd, rfl⟩⟩; refine ⟨_, rfl, ?_⟩))
      go_roundg k1
      case measure => have := HK1.out; omega
      case rel => exact ⟨(x6_1), (wrap64 (x7_1 + 1)), (by first | rfl | (simp; done) | (simp [*]; done)), (by first | rfl | (simp; done) | (simp [*]; done)), H', ⟨by have := HK1.out; omega⟩, ⟨by (with_reducible repeat (first | apply Kd.R_alloc | apply Kd.R_drewN | apply Kd.R_drew)); exact HO_5.out⟩, ⟨by repeat (first | (with_reducible first | exact HB.out | apply below_alloc | apply pw_below_drewN | apply below_drew1) | exact HB.out)⟩⟩
     ·replace c8 := Bool.eq_false_iff.mpr c8
      subst c8
      have H1 : ((madrigalref01_begins.f a0 a1 (rdOf ByteArray.empty t170 x7_1)).bind fun t176 => (if t176 = true then (if ((rdOf ByteArray.empty t170 x7_1).size : Int) > (x6_1.size : Int) then (madrigalref01_sign.l0 k1 a0 a1 t170 (rdOf ByteArray.empty t170 x7_1) (wrap64 (x7_1 + 1))) else (madrigalref01_sign.l0 k1 a0 a1 t170 x6_1 (wrap64 (x7_1 + 1)))) else (madrigalref01_sign.l0 k1 a0 a1 t170 x6_1 (wrap64 (x7_1 + 1))))) = some r := by rw [if_neg (show ¬ (false = true) by decide)] at H; exact H
      clear H
      have H := H1
      clear H1
      replace H := Option.bind_eq_some_iff.mp H
      obtain ⟨t176, A100, H⟩ := H
      replace H : (if t176 = true then (if ((rdOf ByteArray.empty t170 x7_1).size : Int) > (x6_1.size : Int) then (madrigalref01_sign.l0 k1 a0 a1 t170 (rdOf ByteArray.empty t170 x7_1) (wrap64 (x7_1 + 1))) else (madrigalref01_sign.l0 k1 a0 a1 t170 x6_1 (wrap64 (x7_1 + 1)))) else (madrigalref01_sign.l0 k1 a0 a1 t170 x6_1 (wrap64 (x7_1 + 1)))) = some r := H
      have A10 := Aside0.mk A100
      clear A100
      by_cases c11 : t176 = true
      ·subst c11
       have H1 : (if ((rdOf ByteArray.empty t170 x7_1).size : Int) > (x6_1.size : Int) then (madrigalref01_sign.l0 k1 a0 a1 t170 (rdOf ByteArray.empty t170 x7_1) (wrap64 (x7_1 + 1))) else (madrigalref01_sign.l0 k1 a0 a1 t170 x6_1 (wrap64 (x7_1 + 1)))) = some r := by rw [if_pos rfl] at H; exact H
       clear H
       have H := H1
       clear H1
       by_cases c12 : ((rdOf ByteArray.empty t170 x7_1).size : Int) > (x6_1.size : Int)
       ·rw [if_pos c12] at H
        have c12b0 : decide ((x6_1.size : Int) < ((rdOf ByteArray.empty t170 x7_1).size : Int)) = true := decide_eq_true c12
        have c12b1 : decide (x6_1.size < (rdOf ByteArray.empty t170 x7_1).size) = true := decide_eq_true (Int.ofNat_lt.mp c12)
        clear c12
        have H' := Aside0.mk H
        clear H
        obtain ⟨Ao13, co13, eo13⟩ := Kd.R_slice HO_5.out
        subst eo13
        have p173 : 0 ≤ (x7_1 : Int) := of_decide_eq_true (by first | (with_reducible assumption) | assumption)
        have q173 : x7_1 < (t170.length : Int) := of_decide_eq_true (by first | (with_reducible assumption) | assumption)
        obtain ⟨ad173, e173, hx173_0⟩ := Kd.at_string (Kd.R_reads' HO_5.out).2.2 x7_1 p173 q173
        cases e173
        replace p173 := eq_true p173
        replace q173 := eq_true q173
        go_wp2_with (first | ((with_reducible refine gate_callee (f := 91) rfl ?_); refine goesL_ (some 19) rfl rfl Tryz.func91 (by kernel_rfl) rfl #[.string (rdOf ByteArray.empty t170 x7_1)] rfl (by (try simp only [List.map_toArray, List.map_cons, List.map_nil]); first | done | rfl | (simp only [List.length_drop, List.length_take]; rfl)) ?_; (with_reducible refine (madrigalref01_symbols.calls k1 (rdOf ByteArray.empty t170 x7_1) false _ A7.out).mono ?_); rintro e w' ⟨rfl, ⟨nd, rfl⟩⟩; refine ⟨_, rfl, ?_⟩; have p175 : 0 ≤ (x7_1 : Int) := of_decide_eq_true (by first | (with_reducible assumption) | assumption); have q175 : x7_1 < (t170.length : Int) := of_decide_eq_true (by first | (with_reducible assumption) | assumption); obtain ⟨ad175, e175, hx175_0⟩ := Kd.at_string (Kd.R_reads' HO_5.out).2.2 x7_1 p175 q175; obtain rfl : ad173 = ad175 := (by injection e175); replace p175 := eq_true p175; replace q175 := eq_true q175) | (go_at_call 65; (with_reducible refine (madrigalref01_begins.calls a0 a1 (rdOf ByteArray.empty t170 x7_1) true _ A10.out).mono ?_); rintro e w' ⟨rfl, ⟨nd, rfl⟩⟩; have p177 : 0 ≤ (x7_1 : Int) := of_decide_eq_true (by first | (with_reducible assumption) | assumption); have q177 : x7_1 < (t170.length : Int) := of_decide_eq_true (by first | (with_reducible assumption) | assumption); obtain ⟨ad177, e177, hx177_0⟩ := Kd.at_string (Kd.R_reads' HO_5.out).2.2 x7_1 p177 q177; obtain rfl : ad173 = ad177 := (by injection e177); replace p177 := eq_true p177; replace q177 := eq_true q177; have p178 : 0 ≤ (x7_1 : Int) := of_decide_eq_true (by first | (with_reducible assumption) | assumption); have q178 : x7_1 < (t170.length : Int) := of_decide_eq_true (by first | (with_reducible assumption) | assumption); obtain ⟨ad178, e178, hx178_0⟩ := Kd.at_string (Kd.R_reads' HO_5.out).2.2 x7_1 p178 q178; obtain rfl : ad173 = ad178 := (by injection e178); replace p178 := eq_true p178; replace q178 := eq_true q178))
        go_roundg k1
        case measure => have := HK1.out; omega
        case rel => exact ⟨(rdOf ByteArray.empty t170 x7_1), (wrap64 (x7_1 + 1)), (by first | rfl | (simp; done) | (simp [*]; done)), (by first | rfl | (simp; done) | (simp [*]; done)), H', ⟨by have := HK1.out; omega⟩, ⟨by (with_reducible repeat (first | apply Kd.R_alloc | apply Kd.R_drewN | apply Kd.R_drew)); exact HO_5.out⟩, ⟨by repeat (first | (with_reducible first | exact HB.out | apply below_alloc | apply pw_below_drewN | apply below_drew1) | exact HB.out)⟩⟩
       ·rw [if_neg c12] at H
        have c12b0 : decide ((x6_1.size : Int) < ((rdOf ByteArray.empty t170 x7_1).size : Int)) = false := decide_eq_false c12
        have c12b1 : decide (x6_1.size < (rdOf ByteArray.empty t170 x7_1).size) = false := decide_eq_false (fun h => c12 (Int.ofNat_lt.mpr h))
        clear c12
        have H' := Aside0.mk H
        clear H
        obtain ⟨Ao14, co14, eo14⟩ := Kd.R_slice HO_5.out
        subst eo14
        have p173 : 0 ≤ (x7_1 : Int) := of_decide_eq_true (by first | (with_reducible assumption) | assumption)
        have q173 : x7_1 < (t170.length : Int) := of_decide_eq_true (by first | (with_reducible assumption) | assumption)
        obtain ⟨ad173, e173, hx173_0⟩ := Kd.at_string (Kd.R_reads' HO_5.out).2.2 x7_1 p173 q173
        cases e173
        replace p173 := eq_true p173
        replace q173 := eq_true q173
        go_wp2_with (first | ((with_reducible refine gate_callee (f := 91) rfl ?_); refine goesL_ (some 19) rfl rfl Tryz.func91 (by kernel_rfl) rfl #[.string (rdOf ByteArray.empty t170 x7_1)] rfl (by (try simp only [List.map_toArray, List.map_cons, List.map_nil]); first | done | rfl | (simp only [List.length_drop, List.length_take]; rfl)) ?_; (with_reducible refine (madrigalref01_symbols.calls k1 (rdOf ByteArray.empty t170 x7_1) false _ A7.out).mono ?_); rintro e w' ⟨rfl, ⟨nd, rfl⟩⟩; refine ⟨_, rfl, ?_⟩; have p175 : 0 ≤ (x7_1 : Int) := of_decide_eq_true (by first | (with_reducible assumption) | assumption); have q175 : x7_1 < (t170.length : Int) := of_decide_eq_true (by first | (with_reducible assumption) | assumption); obtain ⟨ad175, e175, hx175_0⟩ := Kd.at_string (Kd.R_reads' HO_5.out).2.2 x7_1 p175 q175; obtain rfl : ad173 = ad175 := (by injection e175); replace p175 := eq_true p175; replace q175 := eq_true q175) | (go_at_call 65; (with_reducible refine (madrigalref01_begins.calls a0 a1 (rdOf ByteArray.empty t170 x7_1) true _ A10.out).mono ?_); rintro e w' ⟨rfl, ⟨nd, rfl⟩⟩; have p177 : 0 ≤ (x7_1 : Int) := of_decide_eq_true (by first | (with_reducible assumption) | assumption); have q177 : x7_1 < (t170.length : Int) := of_decide_eq_true (by first | (with_reducible assumption) | assumption); obtain ⟨ad177, e177, hx177_0⟩ := Kd.at_string (Kd.R_reads' HO_5.out).2.2 x7_1 p177 q177; obtain rfl : ad173 = ad177 := (by injection e177); replace p177 := eq_true p177; replace q177 := eq_true q177))
        go_roundg k1
        case measure => have := HK1.out; omega
        case rel => exact ⟨(x6_1), (wrap64 (x7_1 + 1)), (by first | rfl | (simp; done) | (simp [*]; done)), (by first | rfl | (simp; done) | (simp [*]; done)), H', ⟨by have := HK1.out; omega⟩, ⟨by (with_reducible repeat (first | apply Kd.R_alloc | apply Kd.R_drewN | apply Kd.R_drew)); exact HO_5.out⟩, ⟨by repeat (first | (with_reducible first | exact HB.out | apply below_alloc | apply pw_below_drewN | apply below_drew1) | exact HB.out)⟩⟩
      ·replace c11 := Bool.eq_false_iff.mpr c11
       subst c11
       have H1 : (madrigalref01_sign.l0 k1 a0 a1 t170 x6_1 (wrap64 (x7_1 + 1))) = some r := by rw [if_neg (show ¬ (false = true) by decide)] at H; exact H
       clear H
       have H := H1
       clear H1
       have H' := Aside0.mk H
       clear H
       obtain ⟨Ao15, co15, eo15⟩ := Kd.R_slice HO_5.out
       subst eo15
       have p173 : 0 ≤ (x7_1 : Int) := of_decide_eq_true (by first | (with_reducible assumption) | assumption)
       have q173 : x7_1 < (t170.length : Int) := of_decide_eq_true (by first | (with_reducible assumption) | assumption)
       obtain ⟨ad173, e173, hx173_0⟩ := Kd.at_string (Kd.R_reads' HO_5.out).2.2 x7_1 p173 q173
       cases e173
       replace p173 := eq_true p173
       replace q173 := eq_true q173
       go_wp2_with (first | ((with_reducible refine gate_callee (f := 91) rfl ?_); refine goesL_ (some 19) rfl rfl Tryz.func91 (by kernel_rfl) rfl #[.string (rdOf ByteArray.empty t170 x7_1)] rfl (by (try simp only [List.map_toArray, List.map_cons, List.map_nil]); first | done | rfl | (simp only [List.length_drop, List.length_take]; rfl)) ?_; (with_reducible refine (madrigalref01_symbols.calls k1 (rdOf ByteArray.empty t170 x7_1) false _ A7.out).mono ?_); rintro e w' ⟨rfl, ⟨nd, rfl⟩⟩; refine ⟨_, rfl, ?_⟩; have p175 : 0 ≤ (x7_1 : Int) := of_decide_eq_true (by first | (with_reducible assumption) | assumption); have q175 : x7_1 < (t170.length : Int) := of_decide_eq_true (by first | (with_reducible assumption) | assumption); obtain ⟨ad175, e175, hx175_0⟩ := Kd.at_string (Kd.R_reads' HO_5.out).2.2 x7_1 p175 q175; obtain rfl : ad173 = ad175 := (by injection e175); replace p175 := eq_true p175; replace q175 := eq_true q175) | (go_at_call 65; (with_reducible refine (madrigalref01_begins.calls a0 a1 (rdOf ByteArray.empty t170 x7_1) false _ A10.out).mono ?_); rintro e w' ⟨rfl, ⟨nd, rfl⟩⟩))
       go_roundg k1
       case measure => have := HK1.out; omega
       case rel => exact ⟨(x6_1), (wrap64 (x7_1 + 1)), (by first | rfl | (simp; done) | (simp [*]; done)), (by first | rfl | (simp; done) | (simp [*]; done)), H', ⟨by have := HK1.out; omega⟩, ⟨by (with_reducible repeat (first | apply Kd.R_alloc | apply Kd.R_drewN | apply Kd.R_drew)); exact HO_5.out⟩, ⟨by repeat (first | (with_reducible first | exact HB.out | apply below_alloc | apply pw_below_drewN | apply below_drew1) | exact HB.out)⟩⟩
    ·rw [if_neg c6] at H
     exact absurd H (by simp)
   ·rw [if_neg c5] at H
    have c5b0 : decide (x7_1 < (t170.length : Int)) = false := decide_eq_false c5
    clear c5
    obtain rfl := Option.some.inj H
    obtain ⟨Ao16, co16, eo16⟩ := Kd.R_slice HO_5.out
    subst eo16
    go_wp2
    go_ret
    exact ⟨by first | rfl | (simp [errW_none, errW_some] <;> rfl) | (simp [*, errW_none, errW_some] <;> rfl), by repeat (first | (with_reducible first | exact HB.out | apply below_alloc | apply pw_below_drewN | apply below_drew1) | exact HB.out)⟩
end Go.Proofs.YtglgppkjgodlkaaGreatDoor.P
