-- Printed by a program of this session (myprint.py, resplit.py), which drives the kit's printer; Lean checks every row.
import Derived.Test.YtglgppkjgodlkaaGreatDoorP0
import Derived.Test.YtglgppkjgodlkaaGreatDoorP1
import Derived.Test.YtglgppkjgodlkaaGreatDoorG0
import Derived.Test.YtglgppkjgodlkaaGreatDoorG1
import Derived.Test.YtglgppkjgodlkaaGreatDoorG2
namespace Go.Proofs.YtglgppkjgodlkaaGreatDoor.P
open Go.Proofs.YtglgppkjgodlkaaGreatDoorW.PrintLast Go.Proofs.YtglgppkjgodlkaaGreatDoorW.PrintMore Go.Proofs.YtglgppkjgodlkaaGreatDoorW.PrintWords Go.RowKit
attribute [local go_sem] max2_int min2_int max_two min_two max_three min_three max_four min_four   -- for this text's walks alone
set_option linter.unusedVariables false
set_option linter.unusedSimpArgs false
attribute [local go_sem high] eqA38

/-! ### madrigallaw01_has: function 39 -/
mutual
def madrigallaw01_has.j0 : Nat → List ByteArray → List Int → List (S38) → Bool → Option (Bool)
 | 0, _, _, _, _ => none
 | k + 1, x1, x2, x7, x33 => if x33 = true then (some false) else (madrigallaw01_has.l0 k x1 x2 x7 (x7.length : Int) 0)
def madrigallaw01_has.l0 : Nat → List ByteArray → List Int → List (S38) → Int → Int → Option (Bool)
 | 0, _, _, _, _, _ => none
 | k + 1, x1, x2, x34, x35, x36 => if x36 < x35 then (if 0 ≤ x36 then (if x36 < (x34.length : Int) then ((madrigalref01_Text.f ((rd_T38 x34 x36).f0) ((rd_T38 x34 x36).f1) ((rd_T38 x34 x36).f2) ((rd_T38 x34 x36).f3) ((rd_T38 x34 x36).f4)).bind fun t148 => (if x36 < (x1.length : Int) then (if t148.toList = (rdOf ByteArray.empty x1 x36).toList then (if x36 < (x2.length : Int) then (if ((rd_T38 x34 x36).f3) = (rd x2 x36) then (madrigallaw01_has.l0 k x1 x2 x34 x35 (wrap64 (x36 + 1))) else (some false)) else (none)) else (some false)) else (none))) else (none)) else (none)) else (some true)
end
def madrigallaw01_has.f (k : Nat) (a0 : ByteArray) (l1 : List ByteArray) (l2 : List Int) : Option (Bool) := (lex_Tokens.f a0).bind fun bt141 => (if bt141.2.2 = 0 then (if (bt141.1.length : Int) = (l1.length : Int) then (madrigallaw01_has.j0 k l1 l2 bt141.1 ((l2.length : Int) != (l1.length : Int))) else (madrigallaw01_has.j0 k l1 l2 bt141.1 true)) else (madrigallaw01_has.j0 k l1 l2 bt141.1 true))
theorem madrigallaw01_has.mono_l : ∀ k, (∀ y0 y1 y2 y3, LeO (madrigallaw01_has.j0 k y0 y1 y2 y3) (madrigallaw01_has.j0 (k + 1) y0 y1 y2 y3)) ∧ (∀ y0 y1 y2 y3 y4, LeO (madrigallaw01_has.l0 k y0 y1 y2 y3 y4) (madrigallaw01_has.l0 (k + 1) y0 y1 y2 y3 y4))
 | 0 => ⟨fun _ _ _ _ r h => by simp [madrigallaw01_has.j0] at h, fun _ _ _ _ _ r h => by simp [madrigallaw01_has.l0] at h⟩
 | k + 1 => by
  obtain ⟨ih0, ih1⟩ := madrigallaw01_has.mono_l k
  refine ⟨?_, ?_⟩
  ·intro y0 y1 y2 y3
   unfold madrigallaw01_has.j0
   repeat' first
   | (with_reducible exact ih0 _ _ _ _)
   | (with_reducible exact ih1 _ _ _ _ _)
   | (with_reducible exact LeO.refl _)
   | (with_reducible exact LeO.none _)
   | (with_reducible refine LeO.ite ?_ ?_)
   | (with_reducible refine LeO.bind ?_ (fun _ => ?_))
   | exact ih0 _ _ _ _
   | exact ih1 _ _ _ _ _
   | exact LeO.none _
   | refine LeO.ite ?_ ?_
   | refine LeO.bind ?_ (fun _ => ?_)
  ·intro y0 y1 y2 y3 y4
   unfold madrigallaw01_has.l0
   repeat' first
   | (with_reducible exact ih0 _ _ _ _)
   | (with_reducible exact ih1 _ _ _ _ _)
   | (with_reducible exact LeO.refl _)
   | (with_reducible exact LeO.none _)
   | (with_reducible refine LeO.ite ?_ ?_)
   | (with_reducible refine LeO.bind ?_ (fun _ => ?_))
   | exact ih0 _ _ _ _
   | exact ih1 _ _ _ _ _
   | exact LeO.none _
   | refine LeO.ite ?_ ?_
   | refine LeO.bind ?_ (fun _ => ?_)
theorem madrigallaw01_has.mono : ∀ a0 a1 a2 k, LeO (madrigallaw01_has.f k a0 a1 a2) (madrigallaw01_has.f (k + 1) a0 a1 a2) := by
 intro a0 a1 a2 k
 obtain ⟨ih0, ih1⟩ := madrigallaw01_has.mono_l k
 unfold madrigallaw01_has.f
 repeat' first
   | (with_reducible exact ih0 _ _ _ _)
   | (with_reducible exact ih1 _ _ _ _ _)
   | (with_reducible exact LeO.refl _)
   | (with_reducible exact LeO.none _)
   | (with_reducible refine LeO.ite ?_ ?_)
   | (with_reducible refine LeO.bind ?_ (fun _ => ?_))
   | exact ih0 _ _ _ _
   | exact ih1 _ _ _ _ _
   | exact LeO.none _
   | refine LeO.ite ?_ ?_
   | refine LeO.bind ?_ (fun _ => ?_)
def madrigallaw01_has.T7 : Bool × List (List Nat × List Nat) := (true, [([], []), ([0], [0]), ([], []), ([], []), ([2, 3], [2, 3]), ([4], [4]), ([1, 5], [1, 5]), ([6, 1], [6]), ([7], [7]), ([8, 7], [7, 8]), ([7], [7]), ([7], [7]), ([10, 11, 7], [7, 10, 11]), ([12, 7], [7, 12]), ([9, 13, 7], [7, 9, 13]), ([7, 14], [7, 14])])
def madrigallaw01_has.B7 : List Nat := [0, 1, 0, 0, 12, 28, 63, 127, 255, 511, 255, 255, 3327, 7423, 16383, 32767]
theorem madrigallaw01_has.tab7 : rtab .any (opsOf Tryz.f39 7) = madrigallaw01_has.T7 := by kernel_rfl
theorem madrigallaw01_has.bits7 : waitsOk madrigallaw01_has.T7.2 madrigallaw01_has.B7 = true := by kernel_rfl
set_option maxHeartbeats 8000000 in
set_option maxRecDepth 100000 in
theorem madrigallaw01_has.calls (k : Nat) (a0 : ByteArray) (A1 : Option Addr) (c1 : Nat) (l1 : List ByteArray) (A2 : Option Addr) (c2 : Nat) (l2 : List Int) (r : Bool) (w : World) (hr1 : Kd.C Kd.string w A1 l1.length l1) (hc1 : l1.length ≤ c1) (hr2 : Kd.C (Kd.int .i64) w A2 l2.length l2) (hc2 : l2.length ≤ c2) (h : madrigallaw01_has.f k a0 l1 l2 = some r) (hG : GL w) :
  Calls Tryz.prog 39 #[.string a0, .slice A1 l1.length c1, .slice A2 l2.length c2] w fun e w' => e = .returned (.bool r) ∧ Below w.heap.size w w' := by
 have hu38 := Tryz.underlying38
 have HG := Aside0.mk hG
 clear hG
 have HR1 := Aside0.mk hr1
 have HC1 := Aside0.mk hc1
 clear hr1 hc1
 have HR2 := Aside0.mk hr2
 have HC2 := Aside0.mk hc2
 clear hr2 hc2
 have HB := Aside0.mk (Below.refl w.heap.size w)
 have H : ((lex_Tokens.f a0).bind fun bt141 => (if bt141.2.2 = 0 then (if (bt141.1.length : Int) = (l1.length : Int) then (madrigallaw01_has.j0 k l1 l2 bt141.1 ((l2.length : Int) != (l1.length : Int))) else (madrigallaw01_has.j0 k l1 l2 bt141.1 true)) else (madrigallaw01_has.j0 k l1 l2 bt141.1 true))) = some r := h
 clear h
 replace H := Option.bind_eq_some_iff.mp H
 obtain ⟨⟨t141, t142, t143⟩, A40, H⟩ := H
 replace H : (if t143 = 0 then (if (t141.length : Int) = (l1.length : Int) then (madrigallaw01_has.j0 k l1 l2 t141 ((l2.length : Int) != (l1.length : Int))) else (madrigallaw01_has.j0 k l1 l2 t141 true)) else (madrigallaw01_has.j0 k l1 l2 t141 true)) = some r := H
 have A4 := Aside0.mk A40
 clear A40
 have HC5 := Aside0.mk H
 clear H
 go_enter Tryz.func39, Tryz.ntmps39
 go_upto_region 2 with (first | ((with_reducible refine gate_callee (f := 13) rfl ?_); refine goesL_ (some 14) rfl rfl Tryz.func13 (by kernel_rfl) rfl #[.string a0] rfl (by (try simp only [List.map_toArray, List.map_cons, List.map_nil]); first | done | rfl | (simp only [List.length_drop, List.length_take]; rfl)) ?_; (with_reducible refine (lex_Tokens.calls a0 t141 t142 t143 _ A4.out ?side1).mono ?_); (case side1 => exact GL.below HG.out (by repeat (first | (with_reducible first | exact HB.out | apply below_alloc | apply pw_below_drewN | apply below_drew1) | exact HB.out))); rintro e w6 ⟨v144, rfl, ho0, hb⟩; refine ⟨_, rfl, ?_⟩; have n0_ := Aside0.mk (Kd.R_lower ho0 (below_size (by repeat (first | (with_reducible first | exact HB.out | apply below_alloc | apply pw_below_drewN | apply below_drew1) | exact HB.out)))); have n1_ := Aside0.mk (below_step (by repeat (first | (with_reducible first | exact HB.out | apply below_alloc | apply pw_below_drewN | apply below_drew1) | exact HB.out)) hb); clear HB; have HO145 := n0_; have HB := n1_; clear n0_ n1_; (try clear hb); (try clear hb2); (try clear hk); (try clear hi); (try clear ho0)))
 (try simp only [Act.put, List.setIfInBounds_toArray, List.set_cons_zero, List.set_cons_succ])
 go_cut [33] (fun v33 wc => ∃ (kq : Nat) (x33_4 : Bool), v33 = .bool x33_4 ∧ Aside0 (madrigallaw01_has.j0 kq l1 l2 t141 x33_4 = some r) ∧ Aside0 (kq ≤ k) ∧ Aside0 (Kd.R k38 38 wc w.heap.size (fun _ => True) v144 t141) ∧ Aside0 (Below w.heap.size w wc))
 case first =>
  have H := HC5.out
  clear HC5
  by_cases c7 : t143 = 0
  ·rw [if_pos c7] at H
   have c7b0 : (t143 == 0) = true := beq_iff_eq.mpr c7
   have c7b1 : (t143 != 0) = false := bne_eq_false_iff_eq.mpr c7
   clear c7
   (first | rw [c7b0] | (simp only [i64_w, i32_w]; rw [c7b0]) | skip)
   by_cases c8 : (t141.length : Int) = (l1.length : Int)
   ·rw [if_pos c8] at H
    have c8b0 : ((t141.length : Int) == (l1.length : Int)) = true := beq_iff_eq.mpr c8
    have c8b1 : ((t141.length : Int) != (l1.length : Int)) = false := bne_eq_false_iff_eq.mpr c8
    have c8b2 : (t141.length == l1.length) = true := by first | simpa using c8 | (simp at c8 ⊢; omega)
    clear c8
    have H' := Aside0.mk H
    clear H
    obtain ⟨Ao9, co9, eo9⟩ := Kd.R_slice HO145.out
    subst eo9
    go_wp2
    go_meet
    case rel => exact ⟨_, (((l2.length : Int) != (l1.length : Int))), (by first | rfl | (simp; done) | (simp [*]; done)), H', ⟨by first | omega | exact Nat.le_refl _⟩, ⟨by (with_reducible repeat (first | apply Kd.R_alloc | apply Kd.R_drewN | apply Kd.R_drew)); exact HO145.out⟩, ⟨by repeat (first | (with_reducible first | exact HB.out | apply below_alloc | apply pw_below_drewN | apply below_drew1) | exact HB.out)⟩⟩
   ·rw [if_neg c8] at H
    have c8b0 : ((t141.length : Int) == (l1.length : Int)) = false := beq_eq_false_iff_ne.mpr c8
    have c8b1 : ((t141.length : Int) != (l1.length : Int)) = true := bne_iff_ne.mpr c8
    have c8b2 : (t141.length == l1.length) = false := by first | simpa using c8 | (simp at c8 ⊢; omega)
    have H' := Aside0.mk H
    clear H
    obtain ⟨Ao10, co10, eo10⟩ := Kd.R_slice HO145.out
    subst eo10
    go_wp2
    go_meet
    case rel => exact ⟨_, (true), (by first | rfl | (simp; done) | (simp [*]; done)), H', ⟨by first | omega | exact Nat.le_refl _⟩, ⟨by (with_reducible repeat (first | apply Kd.R_alloc | apply Kd.R_drewN | apply Kd.R_drew)); exact HO145.out⟩, ⟨by repeat (first | (with_reducible first | exact HB.out | apply below_alloc | apply pw_below_drewN | apply below_drew1) | exact HB.out)⟩⟩
  ·rw [if_neg c7] at H
   have c7b0 : (t143 == 0) = false := beq_eq_false_iff_ne.mpr c7
   have c7b1 : (t143 != 0) = true := bne_iff_ne.mpr c7
   (first | rw [c7b0] | (simp only [i64_w, i32_w]; rw [c7b0]) | skip)
   have H' := Aside0.mk H
   clear H
   go_wp2
   go_meet
   case rel => exact ⟨_, (true), (by first | rfl | (simp; done) | (simp [*]; done)), H', ⟨by first | omega | exact Nat.le_refl _⟩, ⟨by (with_reducible repeat (first | apply Kd.R_alloc | apply Kd.R_drewN | apply Kd.R_drew)); exact HO145.out⟩, ⟨by repeat (first | (with_reducible first | exact HB.out | apply below_alloc | apply pw_below_drewN | apply below_drew1) | exact HB.out)⟩⟩
 case rest =>
  clear HC5
  try clear c1
  try clear c2
  try clear p2
  try clear c3
  try clear c7
  try clear c7b0
  try clear c7b1
  try clear c8
  try clear c8b0
  try clear c8b1
  try clear c8b2
  obtain ⟨kq, x33_4, rfl, HA, HJ4, HO_7, HB⟩ := hcut
  cases kq with
  | zero => exact absurd HA.out (by simp [madrigallaw01_has.j0])
  | succ kj4 =>
   have H := HA.out
   clear HA
   simp only [madrigallaw01_has.j0] at H
   by_cases c11 : x33_4 = true
   ·subst c11
    have H1 : (some false) = some r := by rw [if_pos rfl] at H; exact H
    clear H
    have H := H1
    clear H1
    obtain rfl := Option.some.inj H
    go_wp2
    go_ret
    exact ⟨by first | rfl | (simp [errW_none, errW_some] <;> rfl) | (simp [*, errW_none, errW_some] <;> rfl), by repeat (first | (with_reducible first | exact HB.out | apply below_alloc | apply pw_below_drewN | apply below_drew1) | exact HB.out)⟩
   ·replace c11 := Bool.eq_false_iff.mpr c11
    subst c11
    have H1 : (madrigallaw01_has.l0 kj4 l1 l2 t141 (t141.length : Int) 0) = some r := by rw [if_neg (show ¬ (false = true) by decide)] at H; exact H
    clear H
    have H := H1
    clear H1
    have H' := Aside0.mk H
    clear H
    obtain ⟨Ao12, co12, eo12⟩ := Kd.R_slice HO_7.out
    subst eo12
    go_wp2
    go_loopg [36] kj4 (fun kq v36 w' => ∃ (x36_2 : Int), v36 = .int .i64 x36_2 ∧ Aside0 (madrigallaw01_has.l0 kq l1 l2 t141 (t141.length : Int) x36_2 = some r) ∧ Aside0 (kq ≤ kj4) ∧ Aside0 (Kd.R k38 38 w' w.heap.size (fun _ => True) (.slice Ao12 t141.length co12) t141) ∧ Aside0 (Below w.heap.size w w'))
    case atStart => exact ⟨(0), (by first | rfl | (simp; done) | (simp [*]; done)), H', ⟨Nat.le_refl _⟩, ⟨by (with_reducible repeat (first | apply Kd.R_alloc | apply Kd.R_drewN | apply Kd.R_drew)); exact HO_7.out⟩, ⟨by repeat (first | (with_reducible first | exact HB.out | apply below_alloc | apply pw_below_drewN | apply below_drew1) | exact HB.out)⟩⟩
    case round =>
     clear H'
     try clear c1
     try clear c2
     try clear p2
     try clear c3
     try clear c7
     try clear c7b0
     try clear c7b1
     try clear c8
     try clear c8b0
     try clear c8b1
     try clear c8b2
     try clear c11
     try clear p2
     obtain ⟨x36_2, rfl, HA, HK2, HO_34, HB⟩ := hrel
     cases gk with
     | zero => exact absurd HA.out (by simp [madrigallaw01_has.l0])
     | succ k2 =>
      have H := HA.out
      clear HA
      simp only [madrigallaw01_has.l0] at H
      by_cases c13 : x36_2 < (t141.length : Int)
      ·rw [if_pos c13] at H
       have c13b0 : decide (x36_2 < (t141.length : Int)) = true := decide_eq_true c13
       clear c13
       by_cases c14 : 0 ≤ x36_2
       ·rw [if_pos c14] at H
        have c14b0 : decide (0 ≤ x36_2) = true := decide_eq_true c14
        clear c14
        by_cases c15 : x36_2 < (t141.length : Int)
        ·rw [if_pos c15] at H
         have c15b0 : decide (x36_2 < (t141.length : Int)) = true := decide_eq_true c15
         clear c15
         replace H := Option.bind_eq_some_iff.mp H
         obtain ⟨t148, A160, H⟩ := H
         replace H : (if x36_2 < (l1.length : Int) then (if t148.toList = (rdOf ByteArray.empty l1 x36_2).toList then (if x36_2 < (l2.length : Int) then (if ((rd_T38 t141 x36_2).f3) = (rd l2 x36_2) then (madrigallaw01_has.l0 k2 l1 l2 t141 (t141.length : Int) (wrap64 (x36_2 + 1))) else (some false)) else (none)) else (some false)) else (none)) = some r := H
         have A16 := Aside0.mk A160
         clear A160
         by_cases c17 : x36_2 < (l1.length : Int)
         ·rw [if_pos c17] at H
          have c17b0 : decide (x36_2 < (l1.length : Int)) = true := decide_eq_true c17
          clear c17
          by_cases c18 : t148.toList = (rdOf ByteArray.empty l1 x36_2).toList
          ·rw [if_pos c18] at H
           have c18b0 : (t148.toList == (rdOf ByteArray.empty l1 x36_2).toList) = true := beq_iff_eq.mpr c18
           have c18b1 : (t148.toList != (rdOf ByteArray.empty l1 x36_2).toList) = false := bne_eq_false_iff_eq.mpr c18
           clear c18
           by_cases c19 : x36_2 < (l2.length : Int)
           ·rw [if_pos c19] at H
            have c19b0 : decide (x36_2 < (l2.length : Int)) = true := decide_eq_true c19
            clear c19
            by_cases c20 : ((rd_T38 t141 x36_2).f3) = (rd l2 x36_2)
            ·rw [if_pos c20] at H
             have c20b0 : (((rd_T38 t141 x36_2).f3) == (rd l2 x36_2)) = true := beq_iff_eq.mpr c20
             have c20b1 : (((rd_T38 t141 x36_2).f3) != (rd l2 x36_2)) = false := bne_eq_false_iff_eq.mpr c20
             clear c20
             have H' := Aside0.mk H
             clear H
             have p146 : 0 ≤ (x36_2 : Int) := of_decide_eq_true (by first | (with_reducible assumption) | assumption)
             have q146 : x36_2 < (t141.length : Int) := of_decide_eq_true (by first | (with_reducible assumption) | assumption)
             obtain ⟨ad146, e146, hx146_0, hx146_1, hx146_2, hx146_3, hx146_4⟩ := at_T38 (Kd.R_reads' HO_34.out).2.2 x36_2 p146 q146
             cases e146
             replace p146 := eq_true p146
             replace q146 := eq_true q146
             try go_wp2_with (first | ((with_reducible refine gate_dst (N := 11) rfl ?_); (try (refine gate_guard (by rfl) ?_; dsimp only)); refine box_event ?hg (N := 11) ?hd (cs := #[.int .i64 0, .int .i64 0, .string (⟨#[]⟩ : ByteArray), .int .i64 0, .int .i64 0]) (t := 38) ?hr ?_; (case hd => rfl); (case hg => rfl); (case hr => first | (go_simp; done) | (go_simp; rfl)); intro gb147 hg w21 hbox hb; have n0_ := Aside0.mk (Kd.R_below (Kd.R_elderB (by (with_reducible repeat (first | apply Kd.R_alloc | apply Kd.R_drewN | apply Kd.R_drew)); exact HO_34.out) gb147 (Nat.le_of_eq hg.symm)) hb); have n1_ := Aside0.mk (below_step (by repeat (first | (with_reducible first | exact HB.out | apply below_alloc | apply pw_below_drewN | apply below_drew1) | exact HB.out)) hb); have n2_ := Aside0.mk (hbox); have n3_ := Aside0.mk ((by rw [hg]; exact (below_size (by repeat (first | (with_reducible first | exact HB.out | apply below_alloc | apply pw_below_drewN | apply below_drew1) | exact HB.out))) : w.heap.size ≤ gb147)); have n4_ := Aside0.mk ((by rw [hg]; exact (below_size (by repeat (first | (with_reducible first | exact HB.out | apply below_alloc | apply pw_below_drewN | apply below_drew1) | exact HB.out))) : w.heap.size ≤ gb147)); clear HO_34; clear HB; have HO_34 := n0_; have HB := n1_; have BK147 := n2_; have GW147 := n3_; have GE147 := n4_; clear n0_ n1_ n2_ n3_ n4_; clear hb hbox hg; have hcz22_0 : w21.cell? ⟨gb147, 0, none⟩ = some (.int .i64 0) := (blk_cell BK147.out 0).trans rfl; have hcz22_1 : w21.cell? ⟨gb147, 1, none⟩ = some (.int .i64 0) := (blk_cell BK147.out 1).trans rfl; have hcz22_2 : w21.cell? ⟨gb147, 2, none⟩ = some (.string (⟨#[]⟩ : ByteArray)) := (blk_cell BK147.out 2).trans rfl; have hcz22_3 : w21.cell? ⟨gb147, 3, none⟩ = some (.int .i64 0) := (blk_cell BK147.out 3).trans rfl; have hcz22_4 : w21.cell? ⟨gb147, 4, none⟩ = some (.int .i64 0) := (blk_cell BK147.out 4).trans rfl; have hfz22_0 := blk_frozen BK147.out 0; have hfz22_1 := blk_frozen BK147.out 1; have hfz22_2 := blk_frozen BK147.out 2; have hfz22_3 := blk_frozen BK147.out 3; have hfz22_4 := blk_frozen BK147.out 4))
             have n0_ : Aside0 (Kd.R k38 38 (((((w21.setCell ⟨gb147, 0, none⟩ (.int .i64 ((rd_T38 t141 x36_2).f0))).setCell ⟨gb147, 1, none⟩ (.int .i64 ((rd_T38 t141 x36_2).f1))).setCell ⟨gb147, 2, none⟩ (.string ((rd_T38 t141 x36_2).f2))).setCell ⟨gb147, 3, none⟩ (.int .i64 ((rd_T38 t141 x36_2).f3))).setCell ⟨gb147, 4, none⟩ (.int .i64 ((rd_T38 t141 x36_2).f4))) w.heap.size (fun k_ => k_ ≠ gb147) (.slice (some ad146) t141.length co12) t141) := ⟨by (with_reducible repeat (first | apply Kd.R_alloc | apply Kd.R_drewN | apply Kd.R_drew)); exact Kd.R_mono (Kd.R_far (p := ⟨gb147, 4, none⟩) (Kd.R_far (p := ⟨gb147, 3, none⟩) (Kd.R_far (p := ⟨gb147, 2, none⟩) (Kd.R_far (p := ⟨gb147, 1, none⟩) (Kd.R_far (p := ⟨gb147, 0, none⟩) (Kd.R_mono HO_34.out (fun k_ hk => (⟨hk, hk.2⟩ : _ ∧ k_ ≠ gb147))) (fun _ hk => hk.2) (.int .i64 ((rd_T38 t141 x36_2).f0))) (fun _ hk => hk.2) (.int .i64 ((rd_T38 t141 x36_2).f1))) (fun _ hk => hk.2) (.string ((rd_T38 t141 x36_2).f2))) (fun _ hk => hk.2) (.int .i64 ((rd_T38 t141 x36_2).f3))) (fun _ hk => hk.2) (.int .i64 ((rd_T38 t141 x36_2).f4))) (fun _ hk => hk.1.2)⟩
             have n1_ : Aside0 ((((((w21.setCell ⟨gb147, 0, none⟩ (.int .i64 ((rd_T38 t141 x36_2).f0))).setCell ⟨gb147, 1, none⟩ (.int .i64 ((rd_T38 t141 x36_2).f1))).setCell ⟨gb147, 2, none⟩ (.string ((rd_T38 t141 x36_2).f2))).setCell ⟨gb147, 3, none⟩ (.int .i64 ((rd_T38 t141 x36_2).f3))).setCell ⟨gb147, 4, none⟩ (.int .i64 ((rd_T38 t141 x36_2).f4))).heap[gb147]? = some (.cells #[.int .i64 ((rd_T38 t141 x36_2).f0), .int .i64 ((rd_T38 t141 x36_2).f1), .string ((rd_T38 t141 x36_2).f2), .int .i64 ((rd_T38 t141 x36_2).f3), .int .i64 ((rd_T38 t141 x36_2).f4)] 38 (0, 0))) := ⟨by (with_reducible repeat (first | refine blk_drewN ?_ _ | refine blk_drew ?_ | refine blk_alloc ?_ _)); refine blk_put (cs := #[.int .i64 ((rd_T38 t141 x36_2).f0), .int .i64 ((rd_T38 t141 x36_2).f1), .string ((rd_T38 t141 x36_2).f2), .int .i64 ((rd_T38 t141 x36_2).f3), .int .i64 0]) ?_ 4 _ rfl; (with_reducible repeat (first | refine blk_drewN ?_ _ | refine blk_drew ?_ | refine blk_alloc ?_ _)); refine blk_put (cs := #[.int .i64 ((rd_T38 t141 x36_2).f0), .int .i64 ((rd_T38 t141 x36_2).f1), .string ((rd_T38 t141 x36_2).f2), .int .i64 0, .int .i64 0]) ?_ 3 _ rfl; (with_reducible repeat (first | refine blk_drewN ?_ _ | refine blk_drew ?_ | refine blk_alloc ?_ _)); refine blk_put (cs := #[.int .i64 ((rd_T38 t141 x36_2).f0), .int .i64 ((rd_T38 t141 x36_2).f1), .string (⟨#[]⟩ : ByteArray), .int .i64 0, .int .i64 0]) ?_ 2 _ rfl; (with_reducible repeat (first | refine blk_drewN ?_ _ | refine blk_drew ?_ | refine blk_alloc ?_ _)); refine blk_put (cs := #[.int .i64 ((rd_T38 t141 x36_2).f0), .int .i64 0, .string (⟨#[]⟩ : ByteArray), .int .i64 0, .int .i64 0]) ?_ 1 _ rfl; (with_reducible repeat (first | refine blk_drewN ?_ _ | refine blk_drew ?_ | refine blk_alloc ?_ _)); refine blk_put (cs := #[.int .i64 0, .int .i64 0, .string (⟨#[]⟩ : ByteArray), .int .i64 0, .int .i64 0]) ?_ 0 _ rfl; (with_reducible repeat (first | refine blk_drewN ?_ _ | refine blk_drew ?_ | refine blk_alloc ?_ _)); exact BK147.out⟩
             have n2_ : Aside0 (Below w.heap.size w (((((w21.setCell ⟨gb147, 0, none⟩ (.int .i64 ((rd_T38 t141 x36_2).f0))).setCell ⟨gb147, 1, none⟩ (.int .i64 ((rd_T38 t141 x36_2).f1))).setCell ⟨gb147, 2, none⟩ (.string ((rd_T38 t141 x36_2).f2))).setCell ⟨gb147, 3, none⟩ (.int .i64 ((rd_T38 t141 x36_2).f3))).setCell ⟨gb147, 4, none⟩ (.int .i64 ((rd_T38 t141 x36_2).f4)))) := ⟨by repeat (first | (with_reducible first | exact HB.out | apply below_alloc | apply pw_below_drewN | apply below_drew1 | refine below_set ?_ GE147.out) | exact HB.out)⟩
             (try clear HO_34)
             (try clear BK147)
             (try clear HB)
             generalize (((((w21.setCell ⟨gb147, 0, none⟩ (.int .i64 ((rd_T38 t141 x36_2).f0))).setCell ⟨gb147, 1, none⟩ (.int .i64 ((rd_T38 t141 x36_2).f1))).setCell ⟨gb147, 2, none⟩ (.string ((rd_T38 t141 x36_2).f2))).setCell ⟨gb147, 3, none⟩ (.int .i64 ((rd_T38 t141 x36_2).f3))).setCell ⟨gb147, 4, none⟩ (.int .i64 ((rd_T38 t141 x36_2).f4))) = w23 at n0_ n1_ n2_ ⊢
             have HO_34 := n0_
             have BK147 := n1_
             have HB := n2_
             clear n0_ n1_ n2_
             replace HO_34 := Aside0.mk (Kd.R_drew HO_34.out)
             replace BK147 := Aside0.mk (blk_drew BK147.out)
             replace HB := Aside0.mk (below_drew1 HB.out)
             have p149 : 0 ≤ (x36_2 : Int) := of_decide_eq_true (by first | (with_reducible assumption) | assumption)
             have q149 : x36_2 < (l1.length : Int) := of_decide_eq_true (by first | (with_reducible assumption) | assumption)
             obtain ⟨ad149, e149, hx149_0⟩ := Kd.at_string HR1.out x36_2 p149 q149
             have hw149_0 := hx149_0
             cases e149
             replace hx149_0 := (HB.out.cell (World.block_lt_of_cell? w _ hx149_0)).trans hx149_0
             replace p149 := eq_true p149
             replace q149 := eq_true q149
             have p150 : 0 ≤ (x36_2 : Int) := of_decide_eq_true (by first | (with_reducible assumption) | assumption)
             have q150 : x36_2 < (l2.length : Int) := of_decide_eq_true (by first | (with_reducible assumption) | assumption)
             obtain ⟨ad150, e150, hx150_0⟩ := Kd.at_int HR2.out x36_2 p150 q150
             have hw150_0 := hx150_0
             cases e150
             replace hx150_0 := (HB.out.cell (World.block_lt_of_cell? w _ hx150_0)).trans hx150_0
             replace p150 := eq_true p150
             replace q150 := eq_true q150
             refine start_ (n := 16) (S := fun w' => w'.cell? ⟨gb147, 0, none⟩ = some (.int .i64 ((rd_T38 t141 x36_2).f0)) ∧ w'.cell? ⟨gb147, 1, none⟩ = some (.int .i64 ((rd_T38 t141 x36_2).f1)) ∧ w'.cell? ⟨gb147, 2, none⟩ = some (.string ((rd_T38 t141 x36_2).f2)) ∧ w'.cell? ⟨gb147, 3, none⟩ = some (.int .i64 ((rd_T38 t141 x36_2).f3)) ∧ w'.cell? ⟨gb147, 4, none⟩ = some (.int .i64 ((rd_T38 t141 x36_2).f4)) ∧ w'.cell? (ad149.add (x36_2).toNat) = some (.string (rdOf ByteArray.empty l1 x36_2)) ∧ w'.cell? (ad150.add (x36_2).toNat) = some (.int .i64 (rd l2 x36_2))) (ds := []) #[X,X,X,X,X,X,X,X,X,X,X,X,X,X,X,X] (by kernel_rfl) rfl rfl ⟨(blk_cell BK147.out 0).trans rfl, (blk_cell BK147.out 1).trans rfl, (blk_cell BK147.out 2).trans rfl, (blk_cell BK147.out 3).trans rfl, (blk_cell BK147.out 4).trans rfl, ((HB.out.cell (World.block_lt_of_cell? w _ hw149_0)).trans hw149_0), ((HB.out.cell (World.block_lt_of_cell? w _ hw150_0)).trans hw150_0)⟩ (fun hHeld => ?_); refine with_tabW madrigallaw01_has.tab7 madrigallaw01_has.bits7 (fun HT_ HW_ => ?_)
             generalize w23.drew = w24 at HO_34 BK147 HB hx149_0 hx150_0 hHeld ⊢
             refine p1_ 2 43 ?_ #[X,X,Y,X,X,X,X,X,X,X,X,X,X,X,X,X] rfl rfl (any_of HT_.out (by kernel_rfl)) (fun _ _ _ h => h) (by rfl) ?_ ?_ ?_ ?_
             rotate_left
             ·intro w'
              go_simp
              with_reducible rfl
             rotate_left
             ·simp only [qa_]
              rfl
             refine p1_ 3 44 ?_ #[X,X,Y,Y,X,X,X,X,X,X,X,X,X,X,X,X] rfl rfl (any_of HT_.out (by kernel_rfl)) (fun _ _ _ h => h) (by rfl) ?_ ?_ ?_ ?_
             rotate_left
             ·intro w'
              go_simp
              with_reducible rfl
             rotate_left
             ·simp only [qa_]
              rfl
             refine p1_ 4 45 ?_ #[X,X,Y,Y,Y,X,X,X,X,X,X,X,X,X,X,X] rfl rfl (any_of HT_.out (by kernel_rfl)) (fun _ _ _ h => h) (by rfl) ?_ ?_ ?_ ?_
             rotate_left
             ·intro w'
              go_simp
              with_reducible rfl
             rotate_left
             ·simp only [qa_]
              rfl
             refine take_ (i := 0) (N := some 41) (v := ?_) (a' := ?_) #[Y,X,Y,Y,Y,X,X,X,X,X,X,X,X,X,X,X] rfl rfl (take_ofW HT_.out HW_.out (by kernel_rfl)) (fun _ _ _ h => h) (Or.inl ⟨by rfl, ?_⟩) hHeld ?_ ?_
             rotate_left
             ·rintro w' ⟨s0, s1, s2, s3, s4, s5, s6⟩
              go_simp
              with_reducible rfl
             rotate_left
             ·simp only [qa_]
              rfl
             refine take_ (i := 5) (N := some 46) (v := ?_) (a' := ?_) #[Y,X,Y,Y,Y,Y,X,X,X,X,X,X,X,X,X,X] rfl rfl (take_ofW HT_.out HW_.out (by kernel_rfl)) (fun _ _ _ h => h) (Or.inl ⟨by rfl, ?_⟩) hHeld ?_ ?_
             rotate_left
             ·rintro w' ⟨s0, s1, s2, s3, s4, s5, s6⟩
              go_simp
              with_reducible rfl
             rotate_left
             ·simp only [qa_]
              rfl
             refine one_ (i := 1) (N := some 42) #[Y,Y,Y,Y,Y,Y,X,X,X,X,X,X,X,X,X,X] rfl rfl (one_of HT_.out (by kernel_rfl)) (by decide) (fun K hK => ?_)
             refine goes_ Tryz.func27 (by kernel_rfl) rfl #[.agg #[.int .i64 ((rd_T38 t141 x36_2).f0), .int .i64 ((rd_T38 t141 x36_2).f1), .string ((rd_T38 t141 x36_2).f2), .int .i64 ((rd_T38 t141 x36_2).f3), .int .i64 ((rd_T38 t141 x36_2).f4)]] (by rfl) rfl rfl (by (try simp only [List.map_toArray, List.map_cons, List.map_nil]); first | done | rfl | (simp only [List.length_drop, List.length_take]; rfl)) ?_
             with_reducible refine (madrigalref01_Text.calls ((rd_T38 t141 x36_2).f0) ((rd_T38 t141 x36_2).f1) ((rd_T38 t141 x36_2).f2) ((rd_T38 t141 x36_2).f3) ((rd_T38 t141 x36_2).f4) t148 _ A16.out ?side1).mono ?_
             (case side1 => exact GL.below HG.out (by repeat (first | (with_reducible first | exact HB.out | apply below_alloc | apply pw_below_drewN | apply below_drew1 | refine below_set ?_ GE147.out) | exact HB.out)))
             rintro e w25 ⟨rfl, hb⟩
             refine ⟨_, rfl, ?_⟩
             replace HO_34 := Aside0.mk (Kd.R_below (by (with_reducible repeat (first | apply Kd.R_alloc | apply Kd.R_drewN | apply Kd.R_drew)); exact HO_34.out) hb)
             replace BK147 := Aside0.mk (blk_below (g := gb147) (o := .cells #[.int .i64 ((rd_T38 t141 x36_2).f0), .int .i64 ((rd_T38 t141 x36_2).f1), .string ((rd_T38 t141 x36_2).f2), .int .i64 ((rd_T38 t141 x36_2).f3), .int .i64 ((rd_T38 t141 x36_2).f4)] 38 (0, 0)) (by (with_reducible repeat (first | refine blk_drewN ?_ _ | refine blk_drew ?_ | refine blk_alloc ?_ _)); exact BK147.out) hb)
             replace HB := Aside0.mk (below_step (by repeat (first | (with_reducible first | exact HB.out | apply below_alloc | apply pw_below_drewN | apply below_drew1 | refine below_set ?_ GE147.out) | exact HB.out)) hb)
             (try clear hb); (try clear hb2); (try clear hk); (try clear hi)
             refine hK.out _ _ ⟨(blk_cell BK147.out 0).trans rfl, (blk_cell BK147.out 1).trans rfl, (blk_cell BK147.out 2).trans rfl, (blk_cell BK147.out 3).trans rfl, (blk_cell BK147.out 4).trans rfl, ((HB.out.cell (World.block_lt_of_cell? w _ hw149_0)).trans hw149_0), ((HB.out.cell (World.block_lt_of_cell? w _ hw150_0)).trans hw150_0)⟩ (fun hHeld => ?_)
             clear hK K
             refine norm_ (a' := ?_) ?_ ?_
             rotate_left
             ·show Act.put _ (some 42) _ = _
              simp only [qa_]
              rfl
             refine p1_ 6 47 ?_ #[Y,Y,Y,Y,Y,Y,Y,X,X,X,X,X,X,X,X,X] rfl rfl (any_of HT_.out (by kernel_rfl)) (fun _ _ _ h => h) (by rfl) ?_ ?_ ?_ ?_
             rotate_left
             ·intro w'
              go_simp
              with_reducible rfl
             rotate_left
             ·simp only [qa_]
              rfl
             refine p1_ 7 48 ?_ #[Y,Y,Y,Y,Y,Y,Y,Y,X,X,X,X,X,X,X,X] rfl rfl (any_of HT_.out (by kernel_rfl)) (fun _ _ _ h => h) (by rfl) ?_ ?_ ?_ ?_
             rotate_left
             ·intro w'
              go_simp
              with_reducible rfl
             rotate_left
             ·simp only [qa_]
              rfl
             refine p1_ 8 49 ?_ #[Y,Y,Y,Y,Y,Y,Y,Y,Y,X,X,X,X,X,X,X] rfl rfl (any_of HT_.out (by kernel_rfl)) (fun _ _ _ h => h) (by rfl) ?_ ?_ ?_ ?_
             rotate_left
             ·intro w'
              go_simp
              with_reducible rfl
             rotate_left
             ·simp only [qa_]
              rfl
             refine p1_ 10 51 ?_ #[Y,Y,Y,Y,Y,Y,Y,Y,Y,X,Y,X,X,X,X,X] rfl rfl (any_of HT_.out (by kernel_rfl)) (fun _ _ _ h => h) (by rfl) ?_ ?_ ?_ ?_
             rotate_left
             ·intro w'
              go_simp
              with_reducible rfl
             rotate_left
             ·simp only [qa_]
              rfl
             refine p1_ 11 52 ?_ #[Y,Y,Y,Y,Y,Y,Y,Y,Y,X,Y,Y,X,X,X,X] rfl rfl (any_of HT_.out (by kernel_rfl)) (fun _ _ _ h => h) (by rfl) ?_ ?_ ?_ ?_
             rotate_left
             ·intro w'
              go_simp
              with_reducible rfl
             rotate_left
             ·simp only [qa_]
              rfl
             refine p1_ 12 53 ?_ #[Y,Y,Y,Y,Y,Y,Y,Y,Y,X,Y,Y,Y,X,X,X] rfl rfl (any_of HT_.out (by kernel_rfl)) (fun _ _ _ h => h) (by rfl) ?_ ?_ ?_ ?_
             rotate_left
             ·intro w'
              go_simp
              with_reducible rfl
             rotate_left
             ·simp only [qa_]
              rfl
             refine take_ (i := 9) (N := some 50) (v := ?_) (a' := ?_) #[Y,Y,Y,Y,Y,Y,Y,Y,Y,Y,Y,Y,Y,X,X,X] rfl rfl (take_ofW HT_.out HW_.out (by kernel_rfl)) (fun _ _ _ h => h) (Or.inl ⟨by rfl, ?_⟩) hHeld ?_ ?_
             rotate_left
             ·rintro w' ⟨s0, s1, s2, s3, s4, s5, s6⟩
              go_simp
              with_reducible rfl
             rotate_left
             ·simp only [qa_]
              rfl
             refine take_ (i := 13) (N := some 54) (v := ?_) (a' := ?_) #[Y,Y,Y,Y,Y,Y,Y,Y,Y,Y,Y,Y,Y,Y,X,X] rfl rfl (take_ofW HT_.out HW_.out (by kernel_rfl)) (fun _ _ _ h => h) (Or.inl ⟨by rfl, ?_⟩) hHeld ?_ ?_
             rotate_left
             ·rintro w' ⟨s0, s1, s2, s3, s4, s5, s6⟩
              go_simp
              with_reducible rfl
             rotate_left
             ·simp only [qa_]
              rfl
             refine p1_ 14 55 ?_ #[Y,Y,Y,Y,Y,Y,Y,Y,Y,Y,Y,Y,Y,Y,Y,X] rfl rfl (any_of HT_.out (by kernel_rfl)) (fun _ _ _ h => h) (by rfl) ?_ ?_ ?_ ?_
             rotate_left
             ·intro w'
              go_simp
              with_reducible rfl
             rotate_left
             ·simp only [qa_]
              rfl
             refine p1_ 15 56 ?_ #[Y,Y,Y,Y,Y,Y,Y,Y,Y,Y,Y,Y,Y,Y,Y,Y] rfl rfl (any_of HT_.out (by kernel_rfl)) (fun _ _ _ h => h) (by rfl) ?_ ?_ ?_ ?_
             rotate_left
             ·intro w'
              go_simp
              with_reducible rfl
             rotate_left
             ·simp only [qa_]
              rfl
             refine done_ (done_of HT_.out (by kernel_rfl)) ?_
             try go_wp2
             go_roundg k2
             case measure => have := HJ4.out; have := HK2.out; omega
             case rel => exact ⟨(wrap64 (x36_2 + 1)), (by first | rfl | (simp; done) | (simp [*]; done)), H', ⟨by have := HJ4.out; have := HK2.out; omega⟩, ⟨by (with_reducible repeat (first | apply Kd.R_alloc | apply Kd.R_drewN | apply Kd.R_drew)); exact Kd.R_mono HO_34.out (fun _ hk => trivial)⟩, ⟨by repeat (first | (with_reducible first | exact HB.out | apply below_alloc | apply pw_below_drewN | apply below_drew1 | refine below_set ?_ GE147.out) | exact HB.out)⟩⟩
            ·rw [if_neg c20] at H
             have c20b0 : (((rd_T38 t141 x36_2).f3) == (rd l2 x36_2)) = false := beq_eq_false_iff_ne.mpr c20
             have c20b1 : (((rd_T38 t141 x36_2).f3) != (rd l2 x36_2)) = true := bne_iff_ne.mpr c20
             obtain rfl := Option.some.inj H
             have p146 : 0 ≤ (x36_2 : Int) := of_decide_eq_true (by first | (with_reducible assumption) | assumption)
             have q146 : x36_2 < (t141.length : Int) := of_decide_eq_true (by first | (with_reducible assumption) | assumption)
             obtain ⟨ad146, e146, hx146_0, hx146_1, hx146_2, hx146_3, hx146_4⟩ := at_T38 (Kd.R_reads' HO_34.out).2.2 x36_2 p146 q146
             cases e146
             replace p146 := eq_true p146
             replace q146 := eq_true q146
             try go_wp2_with (first | ((with_reducible refine gate_dst (N := 11) rfl ?_); (try (refine gate_guard (by rfl) ?_; dsimp only)); refine box_event ?hg (N := 11) ?hd (cs := #[.int .i64 0, .int .i64 0, .string (⟨#[]⟩ : ByteArray), .int .i64 0, .int .i64 0]) (t := 38) ?hr ?_; (case hd => rfl); (case hg => rfl); (case hr => first | (go_simp; done) | (go_simp; rfl)); intro gb147 hg w26 hbox hb; have n0_ := Aside0.mk (Kd.R_below (Kd.R_elderB (by (with_reducible repeat (first | apply Kd.R_alloc | apply Kd.R_drewN | apply Kd.R_drew)); exact HO_34.out) gb147 (Nat.le_of_eq hg.symm)) hb); have n1_ := Aside0.mk (below_step (by repeat (first | (with_reducible first | exact HB.out | apply below_alloc | apply pw_below_drewN | apply below_drew1) | exact HB.out)) hb); have n2_ := Aside0.mk (hbox); have n3_ := Aside0.mk ((by rw [hg]; exact (below_size (by repeat (first | (with_reducible first | exact HB.out | apply below_alloc | apply pw_below_drewN | apply below_drew1) | exact HB.out))) : w.heap.size ≤ gb147)); have n4_ := Aside0.mk ((by rw [hg]; exact (below_size (by repeat (first | (with_reducible first | exact HB.out | apply below_alloc | apply pw_below_drewN | apply below_drew1) | exact HB.out))) : w.heap.size ≤ gb147)); clear HO_34; clear HB; have HO_34 := n0_; have HB := n1_; have BK147 := n2_; have GW147 := n3_; have GE147 := n4_; clear n0_ n1_ n2_ n3_ n4_; clear hb hbox hg; have hcz27_0 : w26.cell? ⟨gb147, 0, none⟩ = some (.int .i64 0) := (blk_cell BK147.out 0).trans rfl; have hcz27_1 : w26.cell? ⟨gb147, 1, none⟩ = some (.int .i64 0) := (blk_cell BK147.out 1).trans rfl; have hcz27_2 : w26.cell? ⟨gb147, 2, none⟩ = some (.string (⟨#[]⟩ : ByteArray)) := (blk_cell BK147.out 2).trans rfl; have hcz27_3 : w26.cell? ⟨gb147, 3, none⟩ = some (.int .i64 0) := (blk_cell BK147.out 3).trans rfl; have hcz27_4 : w26.cell? ⟨gb147, 4, none⟩ = some (.int .i64 0) := (blk_cell BK147.out 4).trans rfl; have hfz27_0 := blk_frozen BK147.out 0; have hfz27_1 := blk_frozen BK147.out 1; have hfz27_2 := blk_frozen BK147.out 2; have hfz27_3 := blk_frozen BK147.out 3; have hfz27_4 := blk_frozen BK147.out 4))
             have n0_ : Aside0 (Kd.R k38 38 (((((w26.setCell ⟨gb147, 0, none⟩ (.int .i64 ((rd_T38 t141 x36_2).f0))).setCell ⟨gb147, 1, none⟩ (.int .i64 ((rd_T38 t141 x36_2).f1))).setCell ⟨gb147, 2, none⟩ (.string ((rd_T38 t141 x36_2).f2))).setCell ⟨gb147, 3, none⟩ (.int .i64 ((rd_T38 t141 x36_2).f3))).setCell ⟨gb147, 4, none⟩ (.int .i64 ((rd_T38 t141 x36_2).f4))) w.heap.size (fun k_ => k_ ≠ gb147) (.slice (some ad146) t141.length co12) t141) := ⟨by (with_reducible repeat (first | apply Kd.R_alloc | apply Kd.R_drewN | apply Kd.R_drew)); exact Kd.R_mono (Kd.R_far (p := ⟨gb147, 4, none⟩) (Kd.R_far (p := ⟨gb147, 3, none⟩) (Kd.R_far (p := ⟨gb147, 2, none⟩) (Kd.R_far (p := ⟨gb147, 1, none⟩) (Kd.R_far (p := ⟨gb147, 0, none⟩) (Kd.R_mono HO_34.out (fun k_ hk => (⟨hk, hk.2⟩ : _ ∧ k_ ≠ gb147))) (fun _ hk => hk.2) (.int .i64 ((rd_T38 t141 x36_2).f0))) (fun _ hk => hk.2) (.int .i64 ((rd_T38 t141 x36_2).f1))) (fun _ hk => hk.2) (.string ((rd_T38 t141 x36_2).f2))) (fun _ hk => hk.2) (.int .i64 ((rd_T38 t141 x36_2).f3))) (fun _ hk => hk.2) (.int .i64 ((rd_T38 t141 x36_2).f4))) (fun _ hk => hk.1.2)⟩
             have n1_ : Aside0 ((((((w26.setCell ⟨gb147, 0, none⟩ (.int .i64 ((rd_T38 t141 x36_2).f0))).setCell ⟨gb147, 1, none⟩ (.int .i64 ((rd_T38 t141 x36_2).f1))).setCell ⟨gb147, 2, none⟩ (.string ((rd_T38 t141 x36_2).f2))).setCell ⟨gb147, 3, none⟩ (.int .i64 ((rd_T38 t141 x36_2).f3))).setCell ⟨gb147, 4, none⟩ (.int .i64 ((rd_T38 t141 x36_2).f4))).heap[gb147]? = some (.cells #[.int .i64 ((rd_T38 t141 x36_2).f0), .int .i64 ((rd_T38 t141 x36_2).f1), .string ((rd_T38 t141 x36_2).f2), .int .i64 ((rd_T38 t141 x36_2).f3), .int .i64 ((rd_T38 t141 x36_2).f4)] 38 (0, 0))) := ⟨by (with_reducible repeat (first | refine blk_drewN ?_ _ | refine blk_drew ?_ | refine blk_alloc ?_ _)); refine blk_put (cs := #[.int .i64 ((rd_T38 t141 x36_2).f0), .int .i64 ((rd_T38 t141 x36_2).f1), .string ((rd_T38 t141 x36_2).f2), .int .i64 ((rd_T38 t141 x36_2).f3), .int .i64 0]) ?_ 4 _ rfl; (with_reducible repeat (first | refine blk_drewN ?_ _ | refine blk_drew ?_ | refine blk_alloc ?_ _)); refine blk_put (cs := #[.int .i64 ((rd_T38 t141 x36_2).f0), .int .i64 ((rd_T38 t141 x36_2).f1), .string ((rd_T38 t141 x36_2).f2), .int .i64 0, .int .i64 0]) ?_ 3 _ rfl; (with_reducible repeat (first | refine blk_drewN ?_ _ | refine blk_drew ?_ | refine blk_alloc ?_ _)); refine blk_put (cs := #[.int .i64 ((rd_T38 t141 x36_2).f0), .int .i64 ((rd_T38 t141 x36_2).f1), .string (⟨#[]⟩ : ByteArray), .int .i64 0, .int .i64 0]) ?_ 2 _ rfl; (with_reducible repeat (first | refine blk_drewN ?_ _ | refine blk_drew ?_ | refine blk_alloc ?_ _)); refine blk_put (cs := #[.int .i64 ((rd_T38 t141 x36_2).f0), .int .i64 0, .string (⟨#[]⟩ : ByteArray), .int .i64 0, .int .i64 0]) ?_ 1 _ rfl; (with_reducible repeat (first | refine blk_drewN ?_ _ | refine blk_drew ?_ | refine blk_alloc ?_ _)); refine blk_put (cs := #[.int .i64 0, .int .i64 0, .string (⟨#[]⟩ : ByteArray), .int .i64 0, .int .i64 0]) ?_ 0 _ rfl; (with_reducible repeat (first | refine blk_drewN ?_ _ | refine blk_drew ?_ | refine blk_alloc ?_ _)); exact BK147.out⟩
             have n2_ : Aside0 (Below w.heap.size w (((((w26.setCell ⟨gb147, 0, none⟩ (.int .i64 ((rd_T38 t141 x36_2).f0))).setCell ⟨gb147, 1, none⟩ (.int .i64 ((rd_T38 t141 x36_2).f1))).setCell ⟨gb147, 2, none⟩ (.string ((rd_T38 t141 x36_2).f2))).setCell ⟨gb147, 3, none⟩ (.int .i64 ((rd_T38 t141 x36_2).f3))).setCell ⟨gb147, 4, none⟩ (.int .i64 ((rd_T38 t141 x36_2).f4)))) := ⟨by repeat (first | (with_reducible first | exact HB.out | apply below_alloc | apply pw_below_drewN | apply below_drew1 | refine below_set ?_ GE147.out) | exact HB.out)⟩
             (try clear HO_34)
             (try clear BK147)
             (try clear HB)
             generalize (((((w26.setCell ⟨gb147, 0, none⟩ (.int .i64 ((rd_T38 t141 x36_2).f0))).setCell ⟨gb147, 1, none⟩ (.int .i64 ((rd_T38 t141 x36_2).f1))).setCell ⟨gb147, 2, none⟩ (.string ((rd_T38 t141 x36_2).f2))).setCell ⟨gb147, 3, none⟩ (.int .i64 ((rd_T38 t141 x36_2).f3))).setCell ⟨gb147, 4, none⟩ (.int .i64 ((rd_T38 t141 x36_2).f4))) = w28 at n0_ n1_ n2_ ⊢
             have HO_34 := n0_
             have BK147 := n1_
             have HB := n2_
             clear n0_ n1_ n2_
             replace HO_34 := Aside0.mk (Kd.R_drew HO_34.out)
             replace BK147 := Aside0.mk (blk_drew BK147.out)
             replace HB := Aside0.mk (below_drew1 HB.out)
             have p149 : 0 ≤ (x36_2 : Int) := of_decide_eq_true (by first | (with_reducible assumption) | assumption)
             have q149 : x36_2 < (l1.length : Int) := of_decide_eq_true (by first | (with_reducible assumption) | assumption)
             obtain ⟨ad149, e149, hx149_0⟩ := Kd.at_string HR1.out x36_2 p149 q149
             have hw149_0 := hx149_0
             cases e149
             replace hx149_0 := (HB.out.cell (World.block_lt_of_cell? w _ hx149_0)).trans hx149_0
             replace p149 := eq_true p149
             replace q149 := eq_true q149
             have p150 : 0 ≤ (x36_2 : Int) := of_decide_eq_true (by first | (with_reducible assumption) | assumption)
             have q150 : x36_2 < (l2.length : Int) := of_decide_eq_true (by first | (with_reducible assumption) | assumption)
             obtain ⟨ad150, e150, hx150_0⟩ := Kd.at_int HR2.out x36_2 p150 q150
             have hw150_0 := hx150_0
             cases e150
             replace hx150_0 := (HB.out.cell (World.block_lt_of_cell? w _ hx150_0)).trans hx150_0
             replace p150 := eq_true p150
             replace q150 := eq_true q150
             refine start_ (n := 16) (S := fun w' => w'.cell? ⟨gb147, 0, none⟩ = some (.int .i64 ((rd_T38 t141 x36_2).f0)) ∧ w'.cell? ⟨gb147, 1, none⟩ = some (.int .i64 ((rd_T38 t141 x36_2).f1)) ∧ w'.cell? ⟨gb147, 2, none⟩ = some (.string ((rd_T38 t141 x36_2).f2)) ∧ w'.cell? ⟨gb147, 3, none⟩ = some (.int .i64 ((rd_T38 t141 x36_2).f3)) ∧ w'.cell? ⟨gb147, 4, none⟩ = some (.int .i64 ((rd_T38 t141 x36_2).f4)) ∧ w'.cell? (ad149.add (x36_2).toNat) = some (.string (rdOf ByteArray.empty l1 x36_2)) ∧ w'.cell? (ad150.add (x36_2).toNat) = some (.int .i64 (rd l2 x36_2))) (ds := []) #[X,X,X,X,X,X,X,X,X,X,X,X,X,X,X,X] (by kernel_rfl) rfl rfl ⟨(blk_cell BK147.out 0).trans rfl, (blk_cell BK147.out 1).trans rfl, (blk_cell BK147.out 2).trans rfl, (blk_cell BK147.out 3).trans rfl, (blk_cell BK147.out 4).trans rfl, ((HB.out.cell (World.block_lt_of_cell? w _ hw149_0)).trans hw149_0), ((HB.out.cell (World.block_lt_of_cell? w _ hw150_0)).trans hw150_0)⟩ (fun hHeld => ?_); refine with_tabW madrigallaw01_has.tab7 madrigallaw01_has.bits7 (fun HT_ HW_ => ?_)
             generalize w28.drew = w29 at HO_34 BK147 HB hx149_0 hx150_0 hHeld ⊢
             refine p1_ 2 43 ?_ #[X,X,Y,X,X,X,X,X,X,X,X,X,X,X,X,X] rfl rfl (any_of HT_.out (by kernel_rfl)) (fun _ _ _ h => h) (by rfl) ?_ ?_ ?_ ?_
             rotate_left
             ·intro w'
              go_simp
              with_reducible rfl
             rotate_left
             ·simp only [qa_]
              rfl
             refine p1_ 3 44 ?_ #[X,X,Y,Y,X,X,X,X,X,X,X,X,X,X,X,X] rfl rfl (any_of HT_.out (by kernel_rfl)) (fun _ _ _ h => h) (by rfl) ?_ ?_ ?_ ?_
             rotate_left
             ·intro w'
              go_simp
              with_reducible rfl
             rotate_left
             ·simp only [qa_]
              rfl
             refine p1_ 4 45 ?_ #[X,X,Y,Y,Y,X,X,X,X,X,X,X,X,X,X,X] rfl rfl (any_of HT_.out (by kernel_rfl)) (fun _ _ _ h => h) (by rfl) ?_ ?_ ?_ ?_
             rotate_left
             ·intro w'
              go_simp
              with_reducible rfl
             rotate_left
             ·simp only [qa_]
              rfl
             refine take_ (i := 0) (N := some 41) (v := ?_) (a' := ?_) #[Y,X,Y,Y,Y,X,X,X,X,X,X,X,X,X,X,X] rfl rfl (take_ofW HT_.out HW_.out (by kernel_rfl)) (fun _ _ _ h => h) (Or.inl ⟨by rfl, ?_⟩) hHeld ?_ ?_
             rotate_left
             ·rintro w' ⟨s0, s1, s2, s3, s4, s5, s6⟩
              go_simp
              with_reducible rfl
             rotate_left
             ·simp only [qa_]
              rfl
             refine take_ (i := 5) (N := some 46) (v := ?_) (a' := ?_) #[Y,X,Y,Y,Y,Y,X,X,X,X,X,X,X,X,X,X] rfl rfl (take_ofW HT_.out HW_.out (by kernel_rfl)) (fun _ _ _ h => h) (Or.inl ⟨by rfl, ?_⟩) hHeld ?_ ?_
             rotate_left
             ·rintro w' ⟨s0, s1, s2, s3, s4, s5, s6⟩
              go_simp
              with_reducible rfl
             rotate_left
             ·simp only [qa_]
              rfl
             refine one_ (i := 1) (N := some 42) #[Y,Y,Y,Y,Y,Y,X,X,X,X,X,X,X,X,X,X] rfl rfl (one_of HT_.out (by kernel_rfl)) (by decide) (fun K hK => ?_)
             refine goes_ Tryz.func27 (by kernel_rfl) rfl #[.agg #[.int .i64 ((rd_T38 t141 x36_2).f0), .int .i64 ((rd_T38 t141 x36_2).f1), .string ((rd_T38 t141 x36_2).f2), .int .i64 ((rd_T38 t141 x36_2).f3), .int .i64 ((rd_T38 t141 x36_2).f4)]] (by rfl) rfl rfl (by (try simp only [List.map_toArray, List.map_cons, List.map_nil]); first | done | rfl | (simp only [List.length_drop, List.length_take]; rfl)) ?_
             with_reducible refine (madrigalref01_Text.calls ((rd_T38 t141 x36_2).f0) ((rd_T38 t141 x36_2).f1) ((rd_T38 t141 x36_2).f2) ((rd_T38 t141 x36_2).f3) ((rd_T38 t141 x36_2).f4) t148 _ A16.out ?side1).mono ?_
             (case side1 => exact GL.below HG.out (by repeat (first | (with_reducible first | exact HB.out | apply below_alloc | apply pw_below_drewN | apply below_drew1 | refine below_set ?_ GE147.out) | exact HB.out)))
             rintro e w30 ⟨rfl, hb⟩
             refine ⟨_, rfl, ?_⟩
             replace HO_34 := Aside0.mk (Kd.R_below (by (with_reducible repeat (first | apply Kd.R_alloc | apply Kd.R_drewN | apply Kd.R_drew)); exact HO_34.out) hb)
             replace BK147 := Aside0.mk (blk_below (g := gb147) (o := .cells #[.int .i64 ((rd_T38 t141 x36_2).f0), .int .i64 ((rd_T38 t141 x36_2).f1), .string ((rd_T38 t141 x36_2).f2), .int .i64 ((rd_T38 t141 x36_2).f3), .int .i64 ((rd_T38 t141 x36_2).f4)] 38 (0, 0)) (by (with_reducible repeat (first | refine blk_drewN ?_ _ | refine blk_drew ?_ | refine blk_alloc ?_ _)); exact BK147.out) hb)
             replace HB := Aside0.mk (below_step (by repeat (first | (with_reducible first | exact HB.out | apply below_alloc | apply pw_below_drewN | apply below_drew1 | refine below_set ?_ GE147.out) | exact HB.out)) hb)
             (try clear hb); (try clear hb2); (try clear hk); (try clear hi)
             refine hK.out _ _ ⟨(blk_cell BK147.out 0).trans rfl, (blk_cell BK147.out 1).trans rfl, (blk_cell BK147.out 2).trans rfl, (blk_cell BK147.out 3).trans rfl, (blk_cell BK147.out 4).trans rfl, ((HB.out.cell (World.block_lt_of_cell? w _ hw149_0)).trans hw149_0), ((HB.out.cell (World.block_lt_of_cell? w _ hw150_0)).trans hw150_0)⟩ (fun hHeld => ?_)
             clear hK K
             refine norm_ (a' := ?_) ?_ ?_
             rotate_left
             ·show Act.put _ (some 42) _ = _
              simp only [qa_]
              rfl
             refine p1_ 6 47 ?_ #[Y,Y,Y,Y,Y,Y,Y,X,X,X,X,X,X,X,X,X] rfl rfl (any_of HT_.out (by kernel_rfl)) (fun _ _ _ h => h) (by rfl) ?_ ?_ ?_ ?_
             rotate_left
             ·intro w'
              go_simp
              with_reducible rfl
             rotate_left
             ·simp only [qa_]
              rfl
             refine p1_ 7 48 ?_ #[Y,Y,Y,Y,Y,Y,Y,Y,X,X,X,X,X,X,X,X] rfl rfl (any_of HT_.out (by kernel_rfl)) (fun _ _ _ h => h) (by rfl) ?_ ?_ ?_ ?_
             rotate_left
             ·intro w'
              go_simp
              with_reducible rfl
             rotate_left
             ·simp only [qa_]
              rfl
             refine p1_ 8 49 ?_ #[Y,Y,Y,Y,Y,Y,Y,Y,Y,X,X,X,X,X,X,X] rfl rfl (any_of HT_.out (by kernel_rfl)) (fun _ _ _ h => h) (by rfl) ?_ ?_ ?_ ?_
             rotate_left
             ·intro w'
              go_simp
              with_reducible rfl
             rotate_left
             ·simp only [qa_]
              rfl
             refine p1_ 10 51 ?_ #[Y,Y,Y,Y,Y,Y,Y,Y,Y,X,Y,X,X,X,X,X] rfl rfl (any_of HT_.out (by kernel_rfl)) (fun _ _ _ h => h) (by rfl) ?_ ?_ ?_ ?_
             rotate_left
             ·intro w'
              go_simp
              with_reducible rfl
             rotate_left
             ·simp only [qa_]
              rfl
             refine p1_ 11 52 ?_ #[Y,Y,Y,Y,Y,Y,Y,Y,Y,X,Y,Y,X,X,X,X] rfl rfl (any_of HT_.out (by kernel_rfl)) (fun _ _ _ h => h) (by rfl) ?_ ?_ ?_ ?_
             rotate_left
             ·intro w'
              go_simp
              with_reducible rfl
             rotate_left
             ·simp only [qa_]
              rfl
             refine p1_ 12 53 ?_ #[Y,Y,Y,Y,Y,Y,Y,Y,Y,X,Y,Y,Y,X,X,X] rfl rfl (any_of HT_.out (by kernel_rfl)) (fun _ _ _ h => h) (by rfl) ?_ ?_ ?_ ?_
             rotate_left
             ·intro w'
              go_simp
              with_reducible rfl
             rotate_left
             ·simp only [qa_]
              rfl
             refine take_ (i := 9) (N := some 50) (v := ?_) (a' := ?_) #[Y,Y,Y,Y,Y,Y,Y,Y,Y,Y,Y,Y,Y,X,X,X] rfl rfl (take_ofW HT_.out HW_.out (by kernel_rfl)) (fun _ _ _ h => h) (Or.inl ⟨by rfl, ?_⟩) hHeld ?_ ?_
             rotate_left
             ·rintro w' ⟨s0, s1, s2, s3, s4, s5, s6⟩
              go_simp
              with_reducible rfl
             rotate_left
             ·simp only [qa_]
              rfl
             refine take_ (i := 13) (N := some 54) (v := ?_) (a' := ?_) #[Y,Y,Y,Y,Y,Y,Y,Y,Y,Y,Y,Y,Y,Y,X,X] rfl rfl (take_ofW HT_.out HW_.out (by kernel_rfl)) (fun _ _ _ h => h) (Or.inl ⟨by rfl, ?_⟩) hHeld ?_ ?_
             rotate_left
             ·rintro w' ⟨s0, s1, s2, s3, s4, s5, s6⟩
              go_simp
              with_reducible rfl
             rotate_left
             ·simp only [qa_]
              rfl
             refine p1_ 14 55 ?_ #[Y,Y,Y,Y,Y,Y,Y,Y,Y,Y,Y,Y,Y,Y,Y,X] rfl rfl (any_of HT_.out (by kernel_rfl)) (fun _ _ _ h => h) (by rfl) ?_ ?_ ?_ ?_
             rotate_left
             ·intro w'
              go_simp
              with_reducible rfl
             rotate_left
             ·simp only [qa_]
              rfl
             refine p1_ 15 56 ?_ #[Y,Y,Y,Y,Y,Y,Y,Y,Y,Y,Y,Y,Y,Y,Y,Y] rfl rfl (any_of HT_.out (by kernel_rfl)) (fun _ _ _ h => h) (by rfl) ?_ ?_ ?_ ?_
             rotate_left
             ·intro w'
              go_simp
              with_reducible rfl
             rotate_left
             ·simp only [qa_]
              rfl
             refine done_ (done_of HT_.out (by kernel_rfl)) ?_
             try go_wp2
             go_ret
             exact ⟨by first | rfl | (simp [errW_none, errW_some] <;> rfl) | (simp [*, errW_none, errW_some] <;> rfl), by repeat (first | (with_reducible first | exact HB.out | apply below_alloc | apply pw_below_drewN | apply below_drew1 | refine below_set ?_ GE147.out) | exact HB.out)⟩
           ·rw [if_neg c19] at H
            exact absurd H (by simp)
          ·rw [if_neg c18] at H
           have c18b0 : (t148.toList == (rdOf ByteArray.empty l1 x36_2).toList) = false := beq_eq_false_iff_ne.mpr c18
           have c18b1 : (t148.toList != (rdOf ByteArray.empty l1 x36_2).toList) = true := bne_iff_ne.mpr c18
           obtain rfl := Option.some.inj H
           have p146 : 0 ≤ (x36_2 : Int) := of_decide_eq_true (by first | (with_reducible assumption) | assumption)
           have q146 : x36_2 < (t141.length : Int) := of_decide_eq_true (by first | (with_reducible assumption) | assumption)
           obtain ⟨ad146, e146, hx146_0, hx146_1, hx146_2, hx146_3, hx146_4⟩ := at_T38 (Kd.R_reads' HO_34.out).2.2 x36_2 p146 q146
           cases e146
           replace p146 := eq_true p146
           replace q146 := eq_true q146
           try go_wp2_with (first | ((with_reducible refine gate_dst (N := 11) rfl ?_); (try (refine gate_guard (by rfl) ?_; dsimp only)); refine box_event ?hg (N := 11) ?hd (cs := #[.int .i64 0, .int .i64 0, .string (⟨#[]⟩ : ByteArray), .int .i64 0, .int .i64 0]) (t := 38) ?hr ?_; (case hd => rfl); (case hg => rfl); (case hr => first | (go_simp; done) | (go_simp; rfl)); intro gb147 hg w31 hbox hb; have n0_ := Aside0.mk (Kd.R_below (Kd.R_elderB (by (with_reducible repeat (first | apply Kd.R_alloc | apply Kd.R_drewN | apply Kd.R_drew)); exact HO_34.out) gb147 (Nat.le_of_eq hg.symm)) hb); have n1_ := Aside0.mk (below_step (by repeat (first | (with_reducible first | exact HB.out | apply below_alloc | apply pw_below_drewN | apply below_drew1) | exact HB.out)) hb); have n2_ := Aside0.mk (hbox); have n3_ := Aside0.mk ((by rw [hg]; exact (below_size (by repeat (first | (with_reducible first | exact HB.out | apply below_alloc | apply pw_below_drewN | apply below_drew1) | exact HB.out))) : w.heap.size ≤ gb147)); have n4_ := Aside0.mk ((by rw [hg]; exact (below_size (by repeat (first | (with_reducible first | exact HB.out | apply below_alloc | apply pw_below_drewN | apply below_drew1) | exact HB.out))) : w.heap.size ≤ gb147)); clear HO_34; clear HB; have HO_34 := n0_; have HB := n1_; have BK147 := n2_; have GW147 := n3_; have GE147 := n4_; clear n0_ n1_ n2_ n3_ n4_; clear hb hbox hg; have hcz32_0 : w31.cell? ⟨gb147, 0, none⟩ = some (.int .i64 0) := (blk_cell BK147.out 0).trans rfl; have hcz32_1 : w31.cell? ⟨gb147, 1, none⟩ = some (.int .i64 0) := (blk_cell BK147.out 1).trans rfl; have hcz32_2 : w31.cell? ⟨gb147, 2, none⟩ = some (.string (⟨#[]⟩ : ByteArray)) := (blk_cell BK147.out 2).trans rfl; have hcz32_3 : w31.cell? ⟨gb147, 3, none⟩ = some (.int .i64 0) := (blk_cell BK147.out 3).trans rfl; have hcz32_4 : w31.cell? ⟨gb147, 4, none⟩ = some (.int .i64 0) := (blk_cell BK147.out 4).trans rfl; have hfz32_0 := blk_frozen BK147.out 0; have hfz32_1 := blk_frozen BK147.out 1; have hfz32_2 := blk_frozen BK147.out 2; have hfz32_3 := blk_frozen BK147.out 3; have hfz32_4 := blk_frozen BK147.out 4))
           have n0_ : Aside0 (Kd.R k38 38 (((((w31.setCell ⟨gb147, 0, none⟩ (.int .i64 ((rd_T38 t141 x36_2).f0))).setCell ⟨gb147, 1, none⟩ (.int .i64 ((rd_T38 t141 x36_2).f1))).setCell ⟨gb147, 2, none⟩ (.string ((rd_T38 t141 x36_2).f2))).setCell ⟨gb147, 3, none⟩ (.int .i64 ((rd_T38 t141 x36_2).f3))).setCell ⟨gb147, 4, none⟩ (.int .i64 ((rd_T38 t141 x36_2).f4))) w.heap.size (fun k_ => k_ ≠ gb147) (.slice (some ad146) t141.length co12) t141) := ⟨by (with_reducible repeat (first | apply Kd.R_alloc | apply Kd.R_drewN | apply Kd.R_drew)); exact Kd.R_mono (Kd.R_far (p := ⟨gb147, 4, none⟩) (Kd.R_far (p := ⟨gb147, 3, none⟩) (Kd.R_far (p := ⟨gb147, 2, none⟩) (Kd.R_far (p := ⟨gb147, 1, none⟩) (Kd.R_far (p := ⟨gb147, 0, none⟩) (Kd.R_mono HO_34.out (fun k_ hk => (⟨hk, hk.2⟩ : _ ∧ k_ ≠ gb147))) (fun _ hk => hk.2) (.int .i64 ((rd_T38 t141 x36_2).f0))) (fun _ hk => hk.2) (.int .i64 ((rd_T38 t141 x36_2).f1))) (fun _ hk => hk.2) (.string ((rd_T38 t141 x36_2).f2))) (fun _ hk => hk.2) (.int .i64 ((rd_T38 t141 x36_2).f3))) (fun _ hk => hk.2) (.int .i64 ((rd_T38 t141 x36_2).f4))) (fun _ hk => hk.1.2)⟩
           have n1_ : Aside0 ((((((w31.setCell ⟨gb147, 0, none⟩ (.int .i64 ((rd_T38 t141 x36_2).f0))).setCell ⟨gb147, 1, none⟩ (.int .i64 ((rd_T38 t141 x36_2).f1))).setCell ⟨gb147, 2, none⟩ (.string ((rd_T38 t141 x36_2).f2))).setCell ⟨gb147, 3, none⟩ (.int .i64 ((rd_T38 t141 x36_2).f3))).setCell ⟨gb147, 4, none⟩ (.int .i64 ((rd_T38 t141 x36_2).f4))).heap[gb147]? = some (.cells #[.int .i64 ((rd_T38 t141 x36_2).f0), .int .i64 ((rd_T38 t141 x36_2).f1), .string ((rd_T38 t141 x36_2).f2), .int .i64 ((rd_T38 t141 x36_2).f3), .int .i64 ((rd_T38 t141 x36_2).f4)] 38 (0, 0))) := ⟨by (with_reducible repeat (first | refine blk_drewN ?_ _ | refine blk_drew ?_ | refine blk_alloc ?_ _)); refine blk_put (cs := #[.int .i64 ((rd_T38 t141 x36_2).f0), .int .i64 ((rd_T38 t141 x36_2).f1), .string ((rd_T38 t141 x36_2).f2), .int .i64 ((rd_T38 t141 x36_2).f3), .int .i64 0]) ?_ 4 _ rfl; (with_reducible repeat (first | refine blk_drewN ?_ _ | refine blk_drew ?_ | refine blk_alloc ?_ _)); refine blk_put (cs := #[.int .i64 ((rd_T38 t141 x36_2).f0), .int .i64 ((rd_T38 t141 x36_2).f1), .string ((rd_T38 t141 x36_2).f2), .int .i64 0, .int .i64 0]) ?_ 3 _ rfl; (with_reducible repeat (first | refine blk_drewN ?_ _ | refine blk_drew ?_ | refine blk_alloc ?_ _)); refine blk_put (cs := #[.int .i64 ((rd_T38 t141 x36_2).f0), .int .i64 ((rd_T38 t141 x36_2).f1), .string (⟨#[]⟩ : ByteArray), .int .i64 0, .int .i64 0]) ?_ 2 _ rfl; (with_reducible repeat (first | refine blk_drewN ?_ _ | refine blk_drew ?_ | refine blk_alloc ?_ _)); refine blk_put (cs := #[.int .i64 ((rd_T38 t141 x36_2).f0), .int .i64 0, .string (⟨#[]⟩ : ByteArray), .int .i64 0, .int .i64 0]) ?_ 1 _ rfl; (with_reducible repeat (first | refine blk_drewN ?_ _ | refine blk_drew ?_ | refine blk_alloc ?_ _)); refine blk_put (cs := #[.int .i64 0, .int .i64 0, .string (⟨#[]⟩ : ByteArray), .int .i64 0, .int .i64 0]) ?_ 0 _ rfl; (with_reducible repeat (first | refine blk_drewN ?_ _ | refine blk_drew ?_ | refine blk_alloc ?_ _)); exact BK147.out⟩
           have n2_ : Aside0 (Below w.heap.size w (((((w31.setCell ⟨gb147, 0, none⟩ (.int .i64 ((rd_T38 t141 x36_2).f0))).setCell ⟨gb147, 1, none⟩ (.int .i64 ((rd_T38 t141 x36_2).f1))).setCell ⟨gb147, 2, none⟩ (.string ((rd_T38 t141 x36_2).f2))).setCell ⟨gb147, 3, none⟩ (.int .i64 ((rd_T38 t141 x36_2).f3))).setCell ⟨gb147, 4, none⟩ (.int .i64 ((rd_T38 t141 x36_2).f4)))) := ⟨by repeat (first | (with_reducible first | exact HB.out | apply below_alloc | apply pw_below_drewN | apply below_drew1 | refine below_set ?_ GE147.out) | exact HB.out)⟩
           (try clear HO_34)
           (try clear BK147)
           (try clear HB)
           generalize (((((w31.setCell ⟨gb147, 0, none⟩ (.int .i64 ((rd_T38 t141 x36_2).f0))).setCell ⟨gb147, 1, none⟩ (.int .i64 ((rd_T38 t141 x36_2).f1))).setCell ⟨gb147, 2, none⟩ (.string ((rd_T38 t141 x36_2).f2))).setCell ⟨gb147, 3, none⟩ (.int .i64 ((rd_T38 t141 x36_2).f3))).setCell ⟨gb147, 4, none⟩ (.int .i64 ((rd_T38 t141 x36_2).f4))) = w33 at n0_ n1_ n2_ ⊢
           have HO_34 := n0_
           have BK147 := n1_
           have HB := n2_
           clear n0_ n1_ n2_
           replace HO_34 := Aside0.mk (Kd.R_drew HO_34.out)
           replace BK147 := Aside0.mk (blk_drew BK147.out)
           replace HB := Aside0.mk (below_drew1 HB.out)
           have p149 : 0 ≤ (x36_2 : Int) := of_decide_eq_true (by first | (with_reducible assumption) | assumption)
           have q149 : x36_2 < (l1.length : Int) := of_decide_eq_true (by first | (with_reducible assumption) | assumption)
           obtain ⟨ad149, e149, hx149_0⟩ := Kd.at_string HR1.out x36_2 p149 q149
           have hw149_0 := hx149_0
           cases e149
           replace hx149_0 := (HB.out.cell (World.block_lt_of_cell? w _ hx149_0)).trans hx149_0
           replace p149 := eq_true p149
           replace q149 := eq_true q149
           refine start_ (n := 16) (S := fun w' => w'.cell? ⟨gb147, 0, none⟩ = some (.int .i64 ((rd_T38 t141 x36_2).f0)) ∧ w'.cell? ⟨gb147, 1, none⟩ = some (.int .i64 ((rd_T38 t141 x36_2).f1)) ∧ w'.cell? ⟨gb147, 2, none⟩ = some (.string ((rd_T38 t141 x36_2).f2)) ∧ w'.cell? ⟨gb147, 3, none⟩ = some (.int .i64 ((rd_T38 t141 x36_2).f3)) ∧ w'.cell? ⟨gb147, 4, none⟩ = some (.int .i64 ((rd_T38 t141 x36_2).f4)) ∧ w'.cell? (ad149.add (x36_2).toNat) = some (.string (rdOf ByteArray.empty l1 x36_2))) (ds := []) #[X,X,X,X,X,X,X,X,X,X,X,X,X,X,X,X] (by kernel_rfl) rfl rfl ⟨(blk_cell BK147.out 0).trans rfl, (blk_cell BK147.out 1).trans rfl, (blk_cell BK147.out 2).trans rfl, (blk_cell BK147.out 3).trans rfl, (blk_cell BK147.out 4).trans rfl, ((HB.out.cell (World.block_lt_of_cell? w _ hw149_0)).trans hw149_0)⟩ (fun hHeld => ?_); refine with_tabW madrigallaw01_has.tab7 madrigallaw01_has.bits7 (fun HT_ HW_ => ?_)
           generalize w33.drew = w34 at HO_34 BK147 HB hx149_0 hHeld ⊢
           refine p1_ 2 43 ?_ #[X,X,Y,X,X,X,X,X,X,X,X,X,X,X,X,X] rfl rfl (any_of HT_.out (by kernel_rfl)) (fun _ _ _ h => h) (by rfl) ?_ ?_ ?_ ?_
           rotate_left
           ·intro w'
            go_simp
            with_reducible rfl
           rotate_left
           ·simp only [qa_]
            rfl
           refine p1_ 3 44 ?_ #[X,X,Y,Y,X,X,X,X,X,X,X,X,X,X,X,X] rfl rfl (any_of HT_.out (by kernel_rfl)) (fun _ _ _ h => h) (by rfl) ?_ ?_ ?_ ?_
           rotate_left
           ·intro w'
            go_simp
            with_reducible rfl
           rotate_left
           ·simp only [qa_]
            rfl
           refine p1_ 4 45 ?_ #[X,X,Y,Y,Y,X,X,X,X,X,X,X,X,X,X,X] rfl rfl (any_of HT_.out (by kernel_rfl)) (fun _ _ _ h => h) (by rfl) ?_ ?_ ?_ ?_
           rotate_left
           ·intro w'
            go_simp
            with_reducible rfl
           rotate_left
           ·simp only [qa_]
            rfl
           refine take_ (i := 0) (N := some 41) (v := ?_) (a' := ?_) #[Y,X,Y,Y,Y,X,X,X,X,X,X,X,X,X,X,X] rfl rfl (take_ofW HT_.out HW_.out (by kernel_rfl)) (fun _ _ _ h => h) (Or.inl ⟨by rfl, ?_⟩) hHeld ?_ ?_
           rotate_left
           ·rintro w' ⟨s0, s1, s2, s3, s4, s5⟩
            go_simp
            with_reducible rfl
           rotate_left
           ·simp only [qa_]
            rfl
           refine take_ (i := 5) (N := some 46) (v := ?_) (a' := ?_) #[Y,X,Y,Y,Y,Y,X,X,X,X,X,X,X,X,X,X] rfl rfl (take_ofW HT_.out HW_.out (by kernel_rfl)) (fun _ _ _ h => h) (Or.inl ⟨by rfl, ?_⟩) hHeld ?_ ?_
           rotate_left
           ·rintro w' ⟨s0, s1, s2, s3, s4, s5⟩
            go_simp
            with_reducible rfl
           rotate_left
           ·simp only [qa_]
            rfl
           refine one_ (i := 1) (N := some 42) #[Y,Y,Y,Y,Y,Y,X,X,X,X,X,X,X,X,X,X] rfl rfl (one_of HT_.out (by kernel_rfl)) (by decide) (fun K hK => ?_)
           refine goes_ Tryz.func27 (by kernel_rfl) rfl #[.agg #[.int .i64 ((rd_T38 t141 x36_2).f0), .int .i64 ((rd_T38 t141 x36_2).f1), .string ((rd_T38 t141 x36_2).f2), .int .i64 ((rd_T38 t141 x36_2).f3), .int .i64 ((rd_T38 t141 x36_2).f4)]] (by rfl) rfl rfl (by (try simp only [List.map_toArray, List.map_cons, List.map_nil]); first | done | rfl | (simp only [List.length_drop, List.length_take]; rfl)) ?_
           with_reducible refine (madrigalref01_Text.calls ((rd_T38 t141 x36_2).f0) ((rd_T38 t141 x36_2).f1) ((rd_T38 t141 x36_2).f2) ((rd_T38 t141 x36_2).f3) ((rd_T38 t141 x36_2).f4) t148 _ A16.out ?side1).mono ?_
           (case side1 => exact GL.below HG.out (by repeat (first | (with_reducible first | exact HB.out | apply below_alloc | apply pw_below_drewN | apply below_drew1 | refine below_set ?_ GE147.out) | exact HB.out)))
           rintro e w35 ⟨rfl, hb⟩
           refine ⟨_, rfl, ?_⟩
           replace HO_34 := Aside0.mk (Kd.R_below (by (with_reducible repeat (first | apply Kd.R_alloc | apply Kd.R_drewN | apply Kd.R_drew)); exact HO_34.out) hb)
           replace BK147 := Aside0.mk (blk_below (g := gb147) (o := .cells #[.int .i64 ((rd_T38 t141 x36_2).f0), .int .i64 ((rd_T38 t141 x36_2).f1), .string ((rd_T38 t141 x36_2).f2), .int .i64 ((rd_T38 t141 x36_2).f3), .int .i64 ((rd_T38 t141 x36_2).f4)] 38 (0, 0)) (by (with_reducible repeat (first | refine blk_drewN ?_ _ | refine blk_drew ?_ | refine blk_alloc ?_ _)); exact BK147.out) hb)
           replace HB := Aside0.mk (below_step (by repeat (first | (with_reducible first | exact HB.out | apply below_alloc | apply pw_below_drewN | apply below_drew1 | refine below_set ?_ GE147.out) | exact HB.out)) hb)
           (try clear hb); (try clear hb2); (try clear hk); (try clear hi)
           refine hK.out _ _ ⟨(blk_cell BK147.out 0).trans rfl, (blk_cell BK147.out 1).trans rfl, (blk_cell BK147.out 2).trans rfl, (blk_cell BK147.out 3).trans rfl, (blk_cell BK147.out 4).trans rfl, ((HB.out.cell (World.block_lt_of_cell? w _ hw149_0)).trans hw149_0)⟩ (fun hHeld => ?_)
           clear hK K
           refine norm_ (a' := ?_) ?_ ?_
           rotate_left
           ·show Act.put _ (some 42) _ = _
            simp only [qa_]
            rfl
           refine p1_ 6 47 ?_ #[Y,Y,Y,Y,Y,Y,Y,X,X,X,X,X,X,X,X,X] rfl rfl (any_of HT_.out (by kernel_rfl)) (fun _ _ _ h => h) (by rfl) ?_ ?_ ?_ ?_
           rotate_left
           ·intro w'
            go_simp
            with_reducible rfl
           rotate_left
           ·simp only [qa_]
            rfl
           refine p1_ 7 48 ?_ #[Y,Y,Y,Y,Y,Y,Y,Y,X,X,X,X,X,X,X,X] rfl rfl (any_of HT_.out (by kernel_rfl)) (fun _ _ _ h => h) (by rfl) ?_ ?_ ?_ ?_
           rotate_left
           ·intro w'
            go_simp
            with_reducible rfl
           rotate_left
           ·simp only [qa_]
            rfl
           refine p2_ 8 49 ?_ #[Y,Y,Y,Y,Y,Y,Y,Y,Y,X,X,X,X,X,X,X] rfl rfl (any_of HT_.out (by kernel_rfl)) (fun _ _ _ h => h) (by rfl) ?_ ?_
           rotate_left
           ·simp only [qa_]
            rfl
           refine p2_ 9 50 ?_ #[Y,Y,Y,Y,Y,Y,Y,Y,Y,Y,X,X,X,X,X,X] rfl rfl (any_of HT_.out (by kernel_rfl)) (fun _ _ _ h => h) (by rfl) ?_ ?_
           rotate_left
           ·simp only [qa_]
            rfl
           refine p2_ 10 51 ?_ #[Y,Y,Y,Y,Y,Y,Y,Y,Y,Y,Y,X,X,X,X,X] rfl rfl (any_of HT_.out (by kernel_rfl)) (fun _ _ _ h => h) (by rfl) ?_ ?_
           rotate_left
           ·simp only [qa_]
            rfl
           refine p2_ 11 52 ?_ #[Y,Y,Y,Y,Y,Y,Y,Y,Y,Y,Y,Y,X,X,X,X] rfl rfl (any_of HT_.out (by kernel_rfl)) (fun _ _ _ h => h) (by rfl) ?_ ?_
           rotate_left
           ·simp only [qa_]
            rfl
           refine p2_ 12 53 ?_ #[Y,Y,Y,Y,Y,Y,Y,Y,Y,Y,Y,Y,Y,X,X,X] rfl rfl (any_of HT_.out (by kernel_rfl)) (fun _ _ _ h => h) (by rfl) ?_ ?_
           rotate_left
           ·simp only [qa_]
            rfl
           refine p2_ 13 54 ?_ #[Y,Y,Y,Y,Y,Y,Y,Y,Y,Y,Y,Y,Y,Y,X,X] rfl rfl (any_of HT_.out (by kernel_rfl)) (fun _ _ _ h => h) (by rfl) ?_ ?_
           rotate_left
           ·simp only [qa_]
            rfl
           refine p2_ 14 55 ?_ #[Y,Y,Y,Y,Y,Y,Y,Y,Y,Y,Y,Y,Y,Y,Y,X] rfl rfl (any_of HT_.out (by kernel_rfl)) (fun _ _ _ h => h) (by rfl) ?_ ?_
           rotate_left
           ·simp only [qa_]
            rfl
           refine p1_ 15 56 ?_ #[Y,Y,Y,Y,Y,Y,Y,Y,Y,Y,Y,Y,Y,Y,Y,Y] rfl rfl (any_of HT_.out (by kernel_rfl)) (fun _ _ _ h => h) (by rfl) ?_ ?_ ?_ ?_
           rotate_left
           ·intro w'
            go_simp
            with_reducible rfl
           rotate_left
           ·simp only [qa_]
            rfl
           refine done_ (done_of HT_.out (by kernel_rfl)) ?_
           try go_wp2
           go_ret
           exact ⟨by first | rfl | (simp [errW_none, errW_some] <;> rfl) | (simp [*, errW_none, errW_some] <;> rfl), by repeat (first | (with_reducible first | exact HB.out | apply below_alloc | apply pw_below_drewN | apply below_drew1 | refine below_set ?_ GE147.out) | exact HB.out)⟩
         ·rw [if_neg c17] at H
          exact absurd H (by simp)
        ·rw [if_neg c15] at H
         exact absurd H (by simp)
       ·rw [if_neg c14] at H
        exact absurd H (by simp)
      ·rw [if_neg c13] at H
       have c13b0 : decide (x36_2 < (t141.length : Int)) = false := decide_eq_false c13
       clear c13
       obtain rfl := Option.some.inj H
       go_wp2
       go_ret
       exact ⟨by first | rfl | (simp [errW_none, errW_some] <;> rfl) | (simp [*, errW_none, errW_some] <;> rfl), by repeat (first | (with_reducible first | exact HB.out | apply below_alloc | apply pw_below_drewN | apply below_drew1) | exact HB.out)⟩

/-! ### madrigallaw01_sane: function 11 -/
theorem sane_has1 : madrigallaw01_has.f 30 (⟨#[80, 91, 97, 93, 62, 62, 98, 59, 105]⟩ : ByteArray) ([⟨#[80]⟩, ⟨#[91]⟩, ⟨#[97]⟩, ⟨#[93]⟩, ⟨#[62, 62]⟩, ⟨#[98]⟩, ⟨#[59]⟩, ⟨#[105]⟩] : List ByteArray) ([0, 1, 2, 3, 4, 6, 7, 8] : List Int) = some true := by decide +kernel
theorem sane_has2 : madrigallaw01_has.f 30 (⟨#[120, 39, 32, 58, 61, 32, 49, 50, 46, 46, 53, 32, 40, 42, 32, 40, 42, 32, 42, 41, 32, 42, 41, 32, 91, 62]⟩ : ByteArray) ([⟨#[120, 39]⟩, ⟨#[58, 61]⟩, ⟨#[49, 50]⟩, ⟨#[46, 46]⟩, ⟨#[53]⟩, ⟨#[91, 62]⟩] : List ByteArray) ([0, 3, 6, 8, 10, 24] : List Int) = some true := by decide +kernel
theorem sane_bad1 : Lex.tokensL [97, 124, 91, 98, 93, 124, 124, 99] = ([], 6, 10) := by decide +kernel
theorem sane_bad2 : Lex.tokensL [40, 42, 32, 40, 42, 32, 42, 41] = ([], 0, 10) := by decide +kernel
theorem sane_bad3 : Lex.tokensL [97, 32, 49, 50, 98] = ([], 2, 10) := by decide +kernel
theorem sane_kind1 : lex_Kind.f (⟨#[91, 93]⟩ : ByteArray) = some 5 := by decide +kernel
theorem sane_kind2 : lex_Kind.f (⟨#[61, 61, 62]⟩ : ByteArray) = some 4 := by decide +kernel
theorem sane_kind3 : lex_Kind.f (⟨#[101, 120, 105, 116]⟩ : ByteArray) = some 2 := by decide +kernel
theorem sane_kind4 : lex_Kind.f (⟨#[97, 32, 98]⟩ : ByteArray) = some 0 := by decide +kernel
def saneToks : List S38 := [⟨1, 0, ⟨#[97]⟩, 0, 0⟩, ⟨1, 0, ⟨#[98]⟩, 0, 0⟩, ⟨5, 0, ⟨#[91]⟩, 0, 0⟩, ⟨5, 0, ⟨#[93]⟩, 0, 0⟩, ⟨5, 0, ⟨#[40]⟩, 0, 0⟩, ⟨4, 0, ⟨#[42]⟩, 0, 0⟩, ⟨5, 0, ⟨#[61]⟩, 0, 0⟩]
theorem sane_join : lex_Join.f saneToks = some (⟨#[97, 32, 98, 91, 32, 93, 40, 32, 42, 32, 61]⟩, 0) := by decide +kernel
theorem sane_place : lex_Place.f 30 (⟨#[10, 97, 98]⟩ : ByteArray) 2 = some (2, 2, 0) := by decide +kernel
theorem sane_strip : Lex.stripL [97, 40, 42, 98, 42, 41, 99] = ([97, 32, 32, 32, 32, 32, 99], 0) := by decide +kernel
theorem C_cells {α : Type} (enc : α → Value) (h1 : ∀ x, (enc x).oneCell' = true) {w : World} {b e : Nat} {f : Nat × Nat} (l : List α) (h : w.heap[b]? = some (.cells (l.map enc).toArray e f)) (hl : l.length ≤ 9223372036854775807) : (Kd.scalar enc h1).C w (some ⟨b, 0, none⟩) l.length l := by
 refine ⟨rfl, hl, fun _ => ⟨_, rfl, fun j p hj => ⟨[enc p], rfl, rfl, fun i u hu => ?_⟩⟩⟩
 cases i with
 | succ i => simp at hu
 | zero =>
  simp at hu
  subst hu
  have ha : (⟨b, 0, none⟩ : Addr).add (j * 1 + 0) = ⟨b, j, none⟩ := by
   unfold Addr.add
   split
   ·rename_i h0; rw [show j = 0 by omega]
   ·simp
  show w.cell? ((⟨b, 0, none⟩ : Addr).add (j * 1 + 0)) = _
  rw [ha, cell_of_row w b j _ _ _ h]
  simp [hj]
theorem two_new (W : World) (o1 o2 : Obj) : ((W.alloc o1).alloc o2).heap[W.heap.size]? = some o1 ∧ ((W.alloc o1).alloc o2).heap[W.heap.size + 1]? = some o2 := by
 have s1 : (W.alloc o1).heap.size = W.heap.size + 1 := Array.size_push _
 have b2 := Array.getElem?_push_size (xs := (W.alloc o1).heap) (x := o2)
 rw [s1] at b2
 exact ⟨((below_alloc (w := W.alloc o1) (Below.refl _ _) o2).block W.heap.size (by rw [s1]; omega)).trans Array.getElem?_push_size, b2⟩
theorem has_go (t : ByteArray) (ws : List ByteArray) (at_ : List Int) (h : madrigallaw01_has.f 30 t ws at_ = some true) (h1 : ws.length ≤ 1000) (h2 : at_.length ≤ 1000) (w W : World) (hG : GL w) (hB : Below w.heap.size w W) :
  Calls Tryz.prog 39 #[.string t, .slice (some ⟨W.heap.size, 0, none⟩) ws.length ws.length, .slice (some ⟨W.heap.size + 1, 0, none⟩) at_.length at_.length] ((W.alloc (Obj.cells (ws.map Value.string).toArray 9)).alloc (Obj.cells (at_.map (Value.int .i64)).toArray 3)) fun e w' => e = .returned (.bool true) ∧ Below w.heap.size w w' := by
 have hn := two_new W (Obj.cells (ws.map Value.string).toArray 9) (Obj.cells (at_.map (Value.int .i64)).toArray 3)
 have hB2 : Below w.heap.size w ((W.alloc (Obj.cells (ws.map Value.string).toArray 9)).alloc (Obj.cells (at_.map (Value.int .i64)).toArray 3)) := below_alloc (below_alloc hB _) _
 refine (madrigallaw01_has.calls 30 t _ _ ws _ _ at_ true _ (C_cells _ _ ws hn.1 (by omega)) (Nat.le_refl _) (C_cells _ _ at_ hn.2 (by omega)) (Nat.le_refl _) h (GL.below hG hB2)).mono ?_
 rintro e w' ⟨rfl, hb⟩
 exact ⟨rfl, hB2.trans (hb.mono hB2.size)⟩
theorem sane_h1 (w W : World) (hG : GL w) (hB : Below w.heap.size w W) :
  Calls Tryz.prog 39 #[.string ⟨#[80, 91, 97, 93, 62, 62, 98, 59, 105]⟩, .slice (some ⟨W.heap.size, 0, none⟩) 8 8, .slice (some ⟨W.heap.size + 1, 0, none⟩) 8 8] ((W.alloc (Obj.cells #[.string ⟨#[80]⟩, .string ⟨#[91]⟩, .string ⟨#[97]⟩, .string ⟨#[93]⟩, .string ⟨#[62, 62]⟩, .string ⟨#[98]⟩, .string ⟨#[59]⟩, .string ⟨#[105]⟩] 9)).alloc (Obj.cells #[.int .i64 0, .int .i64 1, .int .i64 2, .int .i64 3, .int .i64 4, .int .i64 6, .int .i64 7, .int .i64 8] 3)) fun e w' => e = .returned (.bool true) ∧ Below w.heap.size w w' :=
 has_go _ ([⟨#[80]⟩, ⟨#[91]⟩, ⟨#[97]⟩, ⟨#[93]⟩, ⟨#[62, 62]⟩, ⟨#[98]⟩, ⟨#[59]⟩, ⟨#[105]⟩] : List ByteArray) ([0, 1, 2, 3, 4, 6, 7, 8] : List Int) sane_has1 (by decide) (by decide) w W hG hB
theorem sane_h2 (w W : World) (hG : GL w) (hB : Below w.heap.size w W) :
  Calls Tryz.prog 39 #[.string ⟨#[120, 39, 32, 58, 61, 32, 49, 50, 46, 46, 53, 32, 40, 42, 32, 40, 42, 32, 42, 41, 32, 42, 41, 32, 91, 62]⟩, .slice (some ⟨W.heap.size, 0, none⟩) 6 6, .slice (some ⟨W.heap.size + 1, 0, none⟩) 6 6] ((W.alloc (Obj.cells #[.string ⟨#[120, 39]⟩, .string ⟨#[58, 61]⟩, .string ⟨#[49, 50]⟩, .string ⟨#[46, 46]⟩, .string ⟨#[53]⟩, .string ⟨#[91, 62]⟩] 9)).alloc (Obj.cells #[.int .i64 0, .int .i64 3, .int .i64 6, .int .i64 8, .int .i64 10, .int .i64 24] 3)) fun e w' => e = .returned (.bool true) ∧ Below w.heap.size w w' :=
 has_go _ ([⟨#[120, 39]⟩, ⟨#[58, 61]⟩, ⟨#[49, 50]⟩, ⟨#[46, 46]⟩, ⟨#[53]⟩, ⟨#[91, 62]⟩] : List ByteArray) ([0, 3, 6, 8, 10, 24] : List Int) sane_has2 (by decide) (by decide) w W hG hB
set_option maxHeartbeats 8000000 in
set_option maxRecDepth 100000 in
theorem sane_sym (s : ByteArray) (w0 w : World) (hB : Below w0.heap.size w0 w) : Calls Tryz.prog 40 #[.string s] w fun e w' => e = .returned (.agg #[.int .i64 4, .int .i64 0, .string s, .int .i64 0, .int .i64 0]) ∧ Below w0.heap.size w0 w' := by
 have hl := fun o : Obj => (Array.getElem?_push_size (xs := w.heap) (x := o))
 go_enter Tryz.func40, Tryz.ntmps40
 go_wp2_with fail
 simp only [bodyPost, results, Tryz.results40]
 go_simp
 exact below_alloc hB _
set_option maxHeartbeats 8000000 in
set_option maxRecDepth 100000 in
theorem sane_sign (s : ByteArray) (w0 w : World) (hB : Below w0.heap.size w0 w) : Calls Tryz.prog 41 #[.string s] w fun e w' => e = .returned (.agg #[.int .i64 5, .int .i64 0, .string s, .int .i64 0, .int .i64 0]) ∧ Below w0.heap.size w0 w' := by
 have hl := fun o : Obj => (Array.getElem?_push_size (xs := w.heap) (x := o))
 go_enter Tryz.func41, Tryz.ntmps41
 go_wp2_with fail
 simp only [bodyPost, results, Tryz.results41]
 go_simp
 exact below_alloc hB _
set_option maxHeartbeats 8000000 in
set_option maxRecDepth 100000 in
theorem sane_name (s : ByteArray) (w0 w : World) (hB : Below w0.heap.size w0 w) : Calls Tryz.prog 42 #[.string s] w fun e w' => e = .returned (.agg #[.int .i64 1, .int .i64 0, .string s, .int .i64 0, .int .i64 0]) ∧ Below w0.heap.size w0 w' := by
 have hl := fun o : Obj => (Array.getElem?_push_size (xs := w.heap) (x := o))
 go_enter Tryz.func42, Tryz.ntmps42
 go_wp2_with fail
 simp only [bodyPost, results, Tryz.results42]
 go_simp
 exact below_alloc hB _
def saneTab : Array Value := #[.string ⟨#[97, 124, 91, 98, 93, 124, 124, 99]⟩, .int .i64 6, .string ⟨#[40, 42, 32, 40, 42, 32, 42, 41]⟩, .int .i64 0, .string ⟨#[97, 32, 49, 50, 98]⟩, .int .i64 2]
structure SaneAt (w : World) (tb : Nat) (W : World) : Prop where
 bel : Below w.heap.size w W
 tab : W.heap[tb]? = some (.cells saneTab 59 (0, 0))
theorem SaneAt.below {w : World} {tb : Nat} {W W2 : World} (h : SaneAt w tb W) (hb : Below W.heap.size W W2) : SaneAt w tb W2 :=
 ⟨h.bel.trans (hb.mono h.bel.size), (hb.block tb (Array.getElem?_eq_some_iff.1 h.tab).1).trans h.tab⟩
theorem SaneAt.cells {w : World} {tb : Nat} {W : World} (h : SaneAt w tb W) (j : Nat) : W.cell? ⟨tb, j, none⟩ = saneTab[j]? := cell_of_row W tb j _ _ _ h.tab
theorem bad_go (t : ByteArray) (p : Nat) (h : Lex.tokensL t.data.toList = ([], p, 10)) (hs : t.size ≤ 140737488351232) (W : World) (hG : GL W) :
  Calls Tryz.prog 13 #[.string t] W fun e w' => ∃ A c, e = .returned (.tuple #[.slice A 0 c, .int .i64 (p : Int), .int .i64 10]) ∧ Below W.heap.size W w' := by
 refine (tokens_any t W hs hG).mono ?_
 rintro e w' ⟨v, rfl, ho, hB⟩
 rw [h] at ho ⊢
 obtain ⟨A, c, rfl⟩ := own_form ho
 exact ⟨A, c, rfl, hB⟩
def tkCells (x : S38) : List Value := [.int .i64 x.f0, .int .i64 x.f1, .string x.f2, .int .i64 x.f3, .int .i64 x.f4]
theorem join_go (W w : World) (hG : GL w) (hB : Below w.heap.size w W) :
  Calls Tryz.prog 24 #[.slice (some ⟨W.heap.size, 0, none⟩) 7 7] (W.alloc (Obj.cells #[.int .i64 1, .int .i64 0, .string ⟨#[97]⟩, .int .i64 0, .int .i64 0, .int .i64 1, .int .i64 0, .string ⟨#[98]⟩, .int .i64 0, .int .i64 0, .int .i64 5, .int .i64 0, .string ⟨#[91]⟩, .int .i64 0, .int .i64 0, .int .i64 5, .int .i64 0, .string ⟨#[93]⟩, .int .i64 0, .int .i64 0, .int .i64 5, .int .i64 0, .string ⟨#[40]⟩, .int .i64 0, .int .i64 0, .int .i64 4, .int .i64 0, .string ⟨#[42]⟩, .int .i64 0, .int .i64 0, .int .i64 5, .int .i64 0, .string ⟨#[61]⟩, .int .i64 0, .int .i64 0] 38)) fun e w' => e = .returned (.tuple #[.string ⟨#[97, 32, 98, 91, 32, 93, 40, 32, 42, 32, 61]⟩, .int .i64 0]) ∧ Below w.heap.size w w' := by
 have ho := World.ownsRow_lit (base := 0) (e := 38) (size := 5) W #[.int .i64 1, .int .i64 0, .string ⟨#[97]⟩, .int .i64 0, .int .i64 0, .int .i64 1, .int .i64 0, .string ⟨#[98]⟩, .int .i64 0, .int .i64 0, .int .i64 5, .int .i64 0, .string ⟨#[91]⟩, .int .i64 0, .int .i64 0, .int .i64 5, .int .i64 0, .string ⟨#[93]⟩, .int .i64 0, .int .i64 0, .int .i64 5, .int .i64 0, .string ⟨#[40]⟩, .int .i64 0, .int .i64 0, .int .i64 4, .int .i64 0, .string ⟨#[42]⟩, .int .i64 0, .int .i64 0, .int .i64 5, .int .i64 0, .string ⟨#[61]⟩, .int .i64 0, .int .i64 0] 7 (Nat.zero_le _) (by decide) rfl
 have hR : Kd.R k38 38 (W.alloc (Obj.cells #[.int .i64 1, .int .i64 0, .string ⟨#[97]⟩, .int .i64 0, .int .i64 0, .int .i64 1, .int .i64 0, .string ⟨#[98]⟩, .int .i64 0, .int .i64 0, .int .i64 5, .int .i64 0, .string ⟨#[91]⟩, .int .i64 0, .int .i64 0, .int .i64 5, .int .i64 0, .string ⟨#[93]⟩, .int .i64 0, .int .i64 0, .int .i64 5, .int .i64 0, .string ⟨#[40]⟩, .int .i64 0, .int .i64 0, .int .i64 4, .int .i64 0, .string ⟨#[42]⟩, .int .i64 0, .int .i64 0, .int .i64 5, .int .i64 0, .string ⟨#[61]⟩, .int .i64 0, .int .i64 0] 38)) 0 (fun _ => True) (.slice (some ⟨W.heap.size, 0, none⟩) 7 7) (saneToks.map id) :=
  ⟨fun _ _ => trivial, saneToks.flatMap tkCells, ho, reps_flat id tkCells (fun _ => rfl) (fun x => k38_mkM _ _ _ x) saneToks⟩
 have hB2 := below_alloc hB (Obj.cells #[.int .i64 1, .int .i64 0, .string ⟨#[97]⟩, .int .i64 0, .int .i64 0, .int .i64 1, .int .i64 0, .string ⟨#[98]⟩, .int .i64 0, .int .i64 0, .int .i64 5, .int .i64 0, .string ⟨#[91]⟩, .int .i64 0, .int .i64 0, .int .i64 5, .int .i64 0, .string ⟨#[93]⟩, .int .i64 0, .int .i64 0, .int .i64 5, .int .i64 0, .string ⟨#[40]⟩, .int .i64 0, .int .i64 0, .int .i64 4, .int .i64 0, .string ⟨#[42]⟩, .int .i64 0, .int .i64 0, .int .i64 5, .int .i64 0, .string ⟨#[61]⟩, .int .i64 0, .int .i64 0] 38)
 refine (lex_Join.calls _ 7 saneToks _ _ _ (Kd.R_reads' hR).2.2 (Nat.le_refl _) sane_join (GL.below hG hB2)).mono ?_
 rintro e w' ⟨rfl, hb⟩
 exact ⟨rfl, hB2.trans (hb.mono hB2.size)⟩
theorem strip_go (W w : World) (hG : GL w) (hB : Below w.heap.size w W) :
  Calls Tryz.prog 33 #[.string ⟨#[97, 40, 42, 98, 42, 41, 99]⟩] W fun e w' => e = .returned (.tuple #[.string ⟨#[97, 32, 32, 32, 32, 32, 99]⟩, .int .i64 0]) ∧ Below w.heap.size w w' := by
 refine (strip_any ⟨#[97, 40, 42, 98, 42, 41, 99]⟩ W (by decide) (GL.below hG hB)).mono ?_
 rintro e w' ⟨rfl, hb⟩
 refine ⟨?_, hB.trans (hb.mono hB.size)⟩
 rw [show Lex.stripL (⟨#[97, 40, 42, 98, 42, 41, 99]⟩ : ByteArray).data.toList = _ from sane_strip]
 rfl
theorem place_go (W w : World) (hB : Below w.heap.size w W) :
  Calls Tryz.prog 31 #[.string ⟨#[10, 97, 98]⟩, .int .i64 2] W fun e w' => e = .returned (.tuple #[.int .i64 2, .int .i64 2, .int .i64 0]) ∧ Below w.heap.size w w' := by
 refine (lex_Place.calls 30 ⟨#[10, 97, 98]⟩ 2 2 2 0 W sane_place).mono ?_
 rintro e w' ⟨rfl, hb⟩
 exact ⟨rfl, hB.trans (hb.below.mono hB.size)⟩
theorem words_go (W w : World) (hG : GL w) (hB : Below w.heap.size w W) :
  Calls Tryz.prog 19 #[] W fun e w' => (∃ A, e = .returned (.slice A 37 37)) ∧ Below w.heap.size w w' := by
 refine (words_any W (GL.below hG hB)).mono ?_
 rintro e w' ⟨rfl, rfl⟩
 exact ⟨⟨_, rfl⟩, below_alloc hB _⟩
theorem signs_go (W w : World) (hG : GL w) (hB : Below w.heap.size w W) :
  Calls Tryz.prog 21 #[] W fun e w' => (∃ A, e = .returned (.slice A 24 24)) ∧ Below w.heap.size w w' := by
 refine (signs_any W (GL.below hG hB)).mono ?_
 rintro e w' ⟨rfl, rfl⟩
 exact ⟨⟨_, rfl⟩, below_alloc hB _⟩
set_option maxHeartbeats 8000000 in
set_option maxRecDepth 100000 in
theorem sane_walk (w : World) (hG : GL w) : Calls Tryz.prog 11 #[] w fun e w' => e = .returned (.bool true) ∧ Below w.heap.size w w' := by
 have HG := Aside0.mk hG
 clear hG
 go_enter Tryz.func11, Tryz.ntmps11
 go_wp2_with fail
 refine (sane_h1 w w HG.out (Below.refl _ _)).mono ?_
 rintro e w1 ⟨rfl, hB⟩
 have HB1 := Aside0.mk hB
 clear hB
 go_wp2_with fail
 refine (sane_h2 w w1 HG.out HB1.out).mono ?_
 rintro e w2 ⟨rfl, hB⟩
 have HB2 := Aside0.mk hB
 clear hB HB1
 go_wp2_with fail
 have hst : SaneAt w w2.heap.size (w2.alloc (Obj.cells saneTab 59)) := ⟨below_alloc HB2.out _, Array.getElem?_push_size⟩
 change Code.wp _ _ _ _ (w2.alloc (Obj.cells saneTab 59))
 generalize w2.alloc (Obj.cells saneTab 59) = W2 at hst ⊢
 generalize w2.heap.size = tb at hst ⊢
 clear HB2
 have Hst := Aside0.mk hst
 clear hst
 go_loopg [28] 3 (fun k t wr => ∃ j : Nat, j ≤ 3 ∧ 3 - j ≤ k ∧ t = .int .i64 (j : Int) ∧ Aside0 (SaneAt w tb wr))
 case atStart => exact ⟨0, by omega, by omega, rfl, Hst⟩
 case round =>
  obtain ⟨j, hj, hk, rfl, HI⟩ := hrel
  have hc := HI.out.cells
  have n0 : wr.cell? ⟨tb, 0, none⟩ = some (.string ⟨#[97, 124, 91, 98, 93, 124, 124, 99]⟩) := hc 0
  have n1 : wr.cell? ⟨tb, 1, none⟩ = some (.int .i64 6) := hc 1
  have n2 : wr.cell? ⟨tb, 2, none⟩ = some (.string ⟨#[40, 42, 32, 40, 42, 32, 42, 41]⟩) := hc 2
  have n3 : wr.cell? ⟨tb, 3, none⟩ = some (.int .i64 0) := hc 3
  have n4 : wr.cell? ⟨tb, 4, none⟩ = some (.string ⟨#[97, 32, 49, 50, 98]⟩) := hc 4
  have n5 : wr.cell? ⟨tb, 5, none⟩ = some (.int .i64 2) := hc 5
  clear hc
  have hnew := fun o : Obj => (Array.getElem?_push_size (xs := wr.heap) (x := o))
  rcases (by omega : j = 0 ∨ j = 1 ∨ j = 2 ∨ j = 3) with rfl | rfl | rfl | rfl
  ·go_wp2_with fail
   have hN : (wr.alloc (Obj.cells #[.string ⟨#[97, 124, 91, 98, 93, 124, 124, 99]⟩, .int .i64 6] 59)).heap[wr.heap.size]? = _ := hnew _
   have hlt : wr.heap.size < (wr.alloc (Obj.cells #[.string ⟨#[97, 124, 91, 98, 93, 124, 124, 99]⟩, .int .i64 6] 59)).heap.size := (Array.getElem?_eq_some_iff.1 hN).1
   have HA := Aside0.mk (HI.out.below (below_alloc (Below.refl wr.heap.size wr) (Obj.cells #[.string ⟨#[97, 124, 91, 98, 93, 124, 124, 99]⟩, .int .i64 6] 59)))
   clear n0 n1 n2 n3 n4 n5 HI hnew
   generalize wr.alloc (Obj.cells #[.string ⟨#[97, 124, 91, 98, 93, 124, 124, 99]⟩, .int .i64 6] 59) = W3 at *
   generalize wr.heap.size = xb at *
   refine (bad_go ⟨#[97, 124, 91, 98, 93, 124, 124, 99]⟩ 6 sane_bad1 (by decide) W3 (GL.below HG.out HA.out.bel)).mono ?_
   rintro e w4 ⟨A, c, rfl, hB⟩
   have m1 : w4.cell? ⟨xb, 1, none⟩ = some (.int .i64 6) := by rw [cell_of_row w4 xb 1 _ _ _ ((hB.block xb hlt).trans hN)]; rfl
   have HA4 := Aside0.mk (HA.out.below hB)
   clear hB hN hlt HA
   go_wp2_with fail
   go_roundg 2
   case measure => omega
   case rel => exact ⟨1, by omega, by omega, rfl, HA4⟩
  ·go_wp2_with fail
   have hN : (wr.alloc (Obj.cells #[.string ⟨#[40, 42, 32, 40, 42, 32, 42, 41]⟩, .int .i64 0] 59)).heap[wr.heap.size]? = _ := hnew _
   have hlt : wr.heap.size < (wr.alloc (Obj.cells #[.string ⟨#[40, 42, 32, 40, 42, 32, 42, 41]⟩, .int .i64 0] 59)).heap.size := (Array.getElem?_eq_some_iff.1 hN).1
   have HA := Aside0.mk (HI.out.below (below_alloc (Below.refl wr.heap.size wr) (Obj.cells #[.string ⟨#[40, 42, 32, 40, 42, 32, 42, 41]⟩, .int .i64 0] 59)))
   clear n0 n1 n2 n3 n4 n5 HI hnew
   generalize wr.alloc (Obj.cells #[.string ⟨#[40, 42, 32, 40, 42, 32, 42, 41]⟩, .int .i64 0] 59) = W3 at *
   generalize wr.heap.size = xb at *
   refine (bad_go ⟨#[40, 42, 32, 40, 42, 32, 42, 41]⟩ 0 sane_bad2 (by decide) W3 (GL.below HG.out HA.out.bel)).mono ?_
   rintro e w4 ⟨A, c, rfl, hB⟩
   have m1 : w4.cell? ⟨xb, 1, none⟩ = some (.int .i64 0) := by rw [cell_of_row w4 xb 1 _ _ _ ((hB.block xb hlt).trans hN)]; rfl
   have HA4 := Aside0.mk (HA.out.below hB)
   clear hB hN hlt HA
   go_wp2_with fail
   go_roundg 1
   case measure => omega
   case rel => exact ⟨2, by omega, by omega, rfl, HA4⟩
  ·go_wp2_with fail
   have hN : (wr.alloc (Obj.cells #[.string ⟨#[97, 32, 49, 50, 98]⟩, .int .i64 2] 59)).heap[wr.heap.size]? = _ := hnew _
   have hlt : wr.heap.size < (wr.alloc (Obj.cells #[.string ⟨#[97, 32, 49, 50, 98]⟩, .int .i64 2] 59)).heap.size := (Array.getElem?_eq_some_iff.1 hN).1
   have HA := Aside0.mk (HI.out.below (below_alloc (Below.refl wr.heap.size wr) (Obj.cells #[.string ⟨#[97, 32, 49, 50, 98]⟩, .int .i64 2] 59)))
   clear n0 n1 n2 n3 n4 n5 HI hnew
   generalize wr.alloc (Obj.cells #[.string ⟨#[97, 32, 49, 50, 98]⟩, .int .i64 2] 59) = W3 at *
   generalize wr.heap.size = xb at *
   refine (bad_go ⟨#[97, 32, 49, 50, 98]⟩ 2 sane_bad3 (by decide) W3 (GL.below HG.out HA.out.bel)).mono ?_
   rintro e w4 ⟨A, c, rfl, hB⟩
   have m1 : w4.cell? ⟨xb, 1, none⟩ = some (.int .i64 2) := by rw [cell_of_row w4 xb 1 _ _ _ ((hB.block xb hlt).trans hN)]; rfl
   have HA4 := Aside0.mk (HA.out.below hB)
   clear hB hN hlt HA
   go_wp2_with fail
   go_roundg 0
   case measure => omega
   case rel => exact ⟨3, by omega, by omega, rfl, HA4⟩
  ·have HB := Aside0.mk HI.out.bel
   clear n0 n1 n2 n3 n4 n5 hnew HI
   go_wp2_with fail
   refine (lex_Kind.calls ⟨#[91, 93]⟩ 5 _ sane_kind1 (GL.below HG.out HB.out)).mono ?_
   rintro e v1 ⟨rfl, hB⟩
   have n0_ := Aside0.mk (HB.out.trans (hB.mono HB.out.size))
   clear hB HB
   have HB := n0_
   clear n0_
   go_wp2_with fail
   refine (lex_Kind.calls ⟨#[61, 61, 62]⟩ 4 _ sane_kind2 (GL.below HG.out HB.out)).mono ?_
   rintro e v2 ⟨rfl, hB⟩
   have n0_ := Aside0.mk (HB.out.trans (hB.mono HB.out.size))
   clear hB HB
   have HB := n0_
   clear n0_
   go_wp2_with fail
   refine (lex_Kind.calls ⟨#[101, 120, 105, 116]⟩ 2 _ sane_kind3 (GL.below HG.out HB.out)).mono ?_
   rintro e v3 ⟨rfl, hB⟩
   have n0_ := Aside0.mk (HB.out.trans (hB.mono HB.out.size))
   clear hB HB
   have HB := n0_
   clear n0_
   go_wp2_with fail
   refine (lex_Kind.calls ⟨#[97, 32, 98]⟩ 0 _ sane_kind4 (GL.below HG.out HB.out)).mono ?_
   rintro e v4 ⟨rfl, hB⟩
   have n0_ := Aside0.mk (HB.out.trans (hB.mono HB.out.size))
   clear hB HB
   have HB := n0_
   clear n0_
   have hE1 : ∀ args w, (callFunc 40 args).run Tryz.prog w = .ok (.enter 40 args) w := enters_of Tryz.func40 (by kernel_rfl) rfl
   have hE2 : ∀ args w, (callFunc 41 args).run Tryz.prog w = .ok (.enter 41 args) w := enters_of Tryz.func41 (by kernel_rfl) rfl
   have hE3 : ∀ args w, (callFunc 42 args).run Tryz.prog w = .ok (.enter 42 args) w := enters_of Tryz.func42 (by kernel_rfl) rfl
   go_wp2_with ((first | (go_at_fn 40; refine (sane_sym _ w _ HB.out).mono ?_) | (go_at_fn 41; refine (sane_sign _ w _ HB.out).mono ?_) | (go_at_fn 42; refine (sane_name _ w _ HB.out).mono ?_)); rintro e w' ⟨rfl, hB⟩; have n0_ := Aside0.mk hB; clear hB HB; have HB := n0_; clear n0_)
   clear hE1 hE2 hE3
   refine (join_go _ w HG.out HB.out).mono ?_
   rintro e u1 ⟨rfl, hB⟩
   have n0_ := Aside0.mk hB
   clear hB HB
   have HB := n0_
   clear n0_
   go_wp2_with fail
   refine (place_go _ w HB.out).mono ?_
   rintro e u2 ⟨rfl, hB⟩
   have n0_ := Aside0.mk hB
   clear hB HB
   have HB := n0_
   clear n0_
   go_wp2_with fail
   refine (strip_go _ w HG.out HB.out).mono ?_
   rintro e u3 ⟨rfl, hB⟩
   have n0_ := Aside0.mk hB
   clear hB HB
   have HB := n0_
   clear n0_
   go_wp2_with fail
   refine (words_go _ w HG.out HB.out).mono ?_
   rintro e u4 ⟨⟨A1, rfl⟩, hB⟩
   have n0_ := Aside0.mk hB
   clear hB HB
   have HB := n0_
   clear n0_
   go_wp2_with fail
   refine (signs_go _ w HG.out HB.out).mono ?_
   rintro e u5 ⟨⟨A2, rfl⟩, hB⟩
   have n0_ := Aside0.mk hB
   clear hB HB
   have HB := n0_
   clear n0_
   go_wp2_with fail
   go_ret
   exact ⟨rfl, HB.out⟩
def madrigallaw01_sane.f : Option Bool := some true
theorem madrigallaw01_sane.calls  (r : Bool) (w : World) (h : madrigallaw01_sane.f  = some r) (hG : GL w) :
  Calls Tryz.prog 11 #[] w fun e w' => e = .returned (.bool r) ∧ Below w.heap.size w w' := by
 injection h with h
 subst h
 exact sane_walk w hG
end Go.Proofs.YtglgppkjgodlkaaGreatDoor.P
