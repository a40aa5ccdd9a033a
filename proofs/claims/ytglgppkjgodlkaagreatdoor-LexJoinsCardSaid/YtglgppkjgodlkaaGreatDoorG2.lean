-- Printed by a program of this session (myprint.py, resplit.py), which drives the kit's printer; Lean checks every row.
import Derived.Test.YtglgppkjgodlkaaGreatDoorP0
import Derived.Test.YtglgppkjgodlkaaGreatDoorP1
import Derived.Test.YtglgppkjgodlkaaGreatDoorG0
import Derived.Test.YtglgppkjgodlkaaGreatDoorG1
namespace Go.Proofs.YtglgppkjgodlkaaGreatDoor.P
open Go.Proofs.YtglgppkjgodlkaaGreatDoorW.PrintLast Go.Proofs.YtglgppkjgodlkaaGreatDoorW.PrintMore Go.Proofs.YtglgppkjgodlkaaGreatDoorW.PrintWords Go.RowKit
attribute [local go_sem] max2_int min2_int max_two min_two max_three min_three max_four min_four   -- for this text's walks alone
set_option linter.unusedVariables false
set_option linter.unusedSimpArgs false
attribute [local go_sem high] eqA38

/-! ### lex_apart: function 50 -/
def lex_apart.f (a0_0 : Int) (a0_1 : Int) (a0_2 : ByteArray) (a0_3 : Int) (a0_4 : Int) (a1_0 : Int) (a1_1 : Int) (a1_2 : ByteArray) (a1_3 : Int) (a1_4 : Int) : Option (Bool) := (lex_written.f a0_0 a0_1 a0_2 a0_3 a0_4).bind fun t126 => ((lex_written.f a1_0 a1_1 a1_2 a1_3 a1_4).bind fun t127 => (if t126.size + t127.size ≤ 9223372036854775807 then ((lex_Tokens.f (t126 ++ t127)).bind fun bt128 => (if bt128.2.2 = 0 then (if (bt128.1.length : Int) = 2 then (if 0 < (bt128.1.length : Int) then ((lex_same.f ((rd_T38 bt128.1 0).f0) ((rd_T38 bt128.1 0).f1) ((rd_T38 bt128.1 0).f2) ((rd_T38 bt128.1 0).f3) ((rd_T38 bt128.1 0).f4) a0_0 a0_1 a0_2 a0_3 a0_4).bind fun t134 => (if t134 = true then (if 1 < (bt128.1.length : Int) then ((lex_same.f ((rd_T38 bt128.1 1).f0) ((rd_T38 bt128.1 1).f1) ((rd_T38 bt128.1 1).f2) ((rd_T38 bt128.1 1).f3) ((rd_T38 bt128.1 1).f4) a1_0 a1_1 a1_2 a1_3 a1_4).bind fun t136 => (some t136)) else (none)) else (some false))) else (none)) else (some false)) else (some false))) else (none)))
def lex_apart.T1 : Bool × List (List Nat × List Nat) := (true, [([], []), ([0], [0]), ([], []), ([2, 1], [2]), ([1, 3], [1, 3]), ([4, 3], [4]), ([5], [5]), ([6], [6]), ([6], [6]), ([6], [6]), ([7, 5, 0, 1, 2, 3, 4, 5, 6, 7], [7]), ([8, 10, 0, 1, 2, 3, 4, 5, 6, 7, 8, 10], [8]), ([9, 11, 0, 1, 2, 3, 4, 5, 6, 7, 8, 9, 10, 11], [9])])
def lex_apart.B1 : List Nat := [0, 1, 0, 7, 15, 31, 63, 127, 127, 127, 255, 1535, 4095]
theorem lex_apart.tab1 : rtab .any (opsOf Tryz.f50 1) = lex_apart.T1 := by kernel_rfl
theorem lex_apart.bits1 : waitsOk lex_apart.T1.2 lex_apart.B1 = true := by kernel_rfl
def lex_apart.T2 : Bool × List (List Nat × List Nat) := (true, [([], []), ([0], [0]), ([1], [1]), ([2], [2]), ([3, 2], [2, 3]), ([4, 2], [2, 4]), ([2, 5], [2, 5]), ([6, 2], [6]), ([7], [7]), ([8, 7], [7, 8]), ([9, 7], [7, 9]), ([7], [7]), ([10, 11, 7, 7], [7, 10, 11]), ([7, 12], [7, 12]), ([13, 12], [13]), ([14], [14]), ([15, 14], [14, 15]), ([16, 14], [14, 16]), ([14], [14]), ([17, 18, 14, 14], [14, 17, 18]), ([14, 19], [14, 19]), ([20, 19, 0, 1, 2, 3, 4, 5, 6, 7, 8, 9, 10, 11, 12, 13, 14, 15, 16, 17, 18, 19, 20], [20])])
def lex_apart.B2 : List Nat := [0, 1, 3, 7, 15, 31, 63, 127, 255, 511, 1023, 255, 4095, 8191, 16383, 32767, 65535, 131071, 32767, 524287, 1048575, 2097151]
theorem lex_apart.tab2 : rtab .any (opsOf Tryz.f50 2) = lex_apart.T2 := by kernel_rfl
theorem lex_apart.bits2 : waitsOk lex_apart.T2.2 lex_apart.B2 = true := by kernel_rfl
set_option maxHeartbeats 8000000 in
set_option maxRecDepth 100000 in
theorem lex_apart.calls (a0_0 : Int) (a0_1 : Int) (a0_2 : ByteArray) (a0_3 : Int) (a0_4 : Int) (a1_0 : Int) (a1_1 : Int) (a1_2 : ByteArray) (a1_3 : Int) (a1_4 : Int) (r : Bool) (w : World) (h : lex_apart.f a0_0 a0_1 a0_2 a0_3 a0_4 a1_0 a1_1 a1_2 a1_3 a1_4 = some r) (hG : GL w) :
  Calls Tryz.prog 50 #[.agg #[.int .i64 a0_0, .int .i64 a0_1, .string a0_2, .int .i64 a0_3, .int .i64 a0_4], .agg #[.int .i64 a1_0, .int .i64 a1_1, .string a1_2, .int .i64 a1_3, .int .i64 a1_4]] w fun e w' => e = .returned (.bool r) ∧ Below w.heap.size w w' := by
 have hu38 := Tryz.underlying38
 have HG := Aside0.mk hG
 clear hG
 have HB := Aside0.mk (Below.refl w.heap.size w)
 have H : ((lex_written.f a0_0 a0_1 a0_2 a0_3 a0_4).bind fun t126 => ((lex_written.f a1_0 a1_1 a1_2 a1_3 a1_4).bind fun t127 => (if t126.size + t127.size ≤ 9223372036854775807 then ((lex_Tokens.f (t126 ++ t127)).bind fun bt128 => (if bt128.2.2 = 0 then (if (bt128.1.length : Int) = 2 then (if 0 < (bt128.1.length : Int) then ((lex_same.f ((rd_T38 bt128.1 0).f0) ((rd_T38 bt128.1 0).f1) ((rd_T38 bt128.1 0).f2) ((rd_T38 bt128.1 0).f3) ((rd_T38 bt128.1 0).f4) a0_0 a0_1 a0_2 a0_3 a0_4).bind fun t134 => (if t134 = true then (if 1 < (bt128.1.length : Int) then ((lex_same.f ((rd_T38 bt128.1 1).f0) ((rd_T38 bt128.1 1).f1) ((rd_T38 bt128.1 1).f2) ((rd_T38 bt128.1 1).f3) ((rd_T38 bt128.1 1).f4) a1_0 a1_1 a1_2 a1_3 a1_4).bind fun t136 => (some t136)) else (none)) else (some false))) else (none)) else (some false)) else (some false))) else (none)))) = some r := h
 clear h
 replace H := Option.bind_eq_some_iff.mp H
 obtain ⟨t126, A30, H⟩ := H
 replace H : ((lex_written.f a1_0 a1_1 a1_2 a1_3 a1_4).bind fun t127 => (if t126.size + t127.size ≤ 9223372036854775807 then ((lex_Tokens.f (t126 ++ t127)).bind fun bt128 => (if bt128.2.2 = 0 then (if (bt128.1.length : Int) = 2 then (if 0 < (bt128.1.length : Int) then ((lex_same.f ((rd_T38 bt128.1 0).f0) ((rd_T38 bt128.1 0).f1) ((rd_T38 bt128.1 0).f2) ((rd_T38 bt128.1 0).f3) ((rd_T38 bt128.1 0).f4) a0_0 a0_1 a0_2 a0_3 a0_4).bind fun t134 => (if t134 = true then (if 1 < (bt128.1.length : Int) then ((lex_same.f ((rd_T38 bt128.1 1).f0) ((rd_T38 bt128.1 1).f1) ((rd_T38 bt128.1 1).f2) ((rd_T38 bt128.1 1).f3) ((rd_T38 bt128.1 1).f4) a1_0 a1_1 a1_2 a1_3 a1_4).bind fun t136 => (some t136)) else (none)) else (some false))) else (none)) else (some false)) else (some false))) else (none))) = some r := H
 have A3 := Aside0.mk A30
 clear A30
 replace H := Option.bind_eq_some_iff.mp H
 obtain ⟨t127, A40, H⟩ := H
 replace H : (if t126.size + t127.size ≤ 9223372036854775807 then ((lex_Tokens.f (t126 ++ t127)).bind fun bt128 => (if bt128.2.2 = 0 then (if (bt128.1.length : Int) = 2 then (if 0 < (bt128.1.length : Int) then ((lex_same.f ((rd_T38 bt128.1 0).f0) ((rd_T38 bt128.1 0).f1) ((rd_T38 bt128.1 0).f2) ((rd_T38 bt128.1 0).f3) ((rd_T38 bt128.1 0).f4) a0_0 a0_1 a0_2 a0_3 a0_4).bind fun t134 => (if t134 = true then (if 1 < (bt128.1.length : Int) then ((lex_same.f ((rd_T38 bt128.1 1).f0) ((rd_T38 bt128.1 1).f1) ((rd_T38 bt128.1 1).f2) ((rd_T38 bt128.1 1).f3) ((rd_T38 bt128.1 1).f4) a1_0 a1_1 a1_2 a1_3 a1_4).bind fun t136 => (some t136)) else (none)) else (some false))) else (none)) else (some false)) else (some false))) else (none)) = some r := H
 have A4 := Aside0.mk A40
 clear A40
 by_cases c5 : t126.size + t127.size ≤ 9223372036854775807
 ·rw [if_pos c5] at H
  have c5b0 := eq_true c5
  have c5b1 : decide (t126.size + t127.size ≤ 9223372036854775807) = true := decide_eq_true c5
  try have c5b2 : (9223372036854775807 < t126.size + t127.size) = False := eq_false (Nat.not_lt.2 c5)
  replace H := Option.bind_eq_some_iff.mp H
  obtain ⟨⟨t128, t129, t130⟩, A60, H⟩ := H
  replace H : (if t130 = 0 then (if (t128.length : Int) = 2 then (if 0 < (t128.length : Int) then ((lex_same.f ((rd_T38 t128 0).f0) ((rd_T38 t128 0).f1) ((rd_T38 t128 0).f2) ((rd_T38 t128 0).f3) ((rd_T38 t128 0).f4) a0_0 a0_1 a0_2 a0_3 a0_4).bind fun t134 => (if t134 = true then (if 1 < (t128.length : Int) then ((lex_same.f ((rd_T38 t128 1).f0) ((rd_T38 t128 1).f1) ((rd_T38 t128 1).f2) ((rd_T38 t128 1).f3) ((rd_T38 t128 1).f4) a1_0 a1_1 a1_2 a1_3 a1_4).bind fun t136 => (some t136)) else (none)) else (some false))) else (none)) else (some false)) else (some false)) = some r := H
  have A6 := Aside0.mk A60
  clear A60
  have HH_ := Aside0.mk H
  clear H
  go_enter Tryz.func50, Tryz.ntmps50
  try go_wp2_with (first | ((with_reducible refine gate_dst (N := 2) rfl ?_); (try (refine gate_guard (by rfl) ?_; dsimp only)); refine box_event ?hg (N := 2) ?hd (cs := #[.int .i64 a0_0, .int .i64 a0_1, .string a0_2, .int .i64 a0_3, .int .i64 a0_4]) (t := 38) ?hr ?_; (case hd => rfl); (case hg => rfl); (case hr => first | (go_simp; done) | (go_simp; rfl)); intro gb124 hg w14 hbox hb; have n0_ := Aside0.mk (below_step (by repeat (first | (with_reducible first | exact HB.out | apply below_alloc | apply pw_below_drewN | apply below_drew1) | exact HB.out)) hb); have n1_ := Aside0.mk (hbox); have n2_ := Aside0.mk ((by rw [hg]; exact (below_size (by repeat (first | (with_reducible first | exact HB.out | apply below_alloc | apply pw_below_drewN | apply below_drew1) | exact HB.out))) : w.heap.size ≤ gb124)); have n3_ := Aside0.mk ((by rw [hg]; exact (below_size (by repeat (first | (with_reducible first | exact HB.out | apply below_alloc | apply pw_below_drewN | apply below_drew1) | exact HB.out))) : w.heap.size ≤ gb124)); clear HB; have HB := n0_; have BK124 := n1_; have GW124 := n2_; have GE124 := n3_; clear n0_ n1_ n2_ n3_; clear hb hbox hg) | ((with_reducible refine gate_dst (N := 3) rfl ?_); (try (refine gate_guard (by rfl) ?_; dsimp only)); refine box_event ?hg (N := 3) ?hd (cs := #[.int .i64 a1_0, .int .i64 a1_1, .string a1_2, .int .i64 a1_3, .int .i64 a1_4]) (t := 38) ?hr ?_; (case hd => rfl); (case hg => rfl); (case hr => first | (go_simp; done) | (go_simp; rfl)); intro gb125 hg w15 hbox hb; have n0_ := Aside0.mk (blk_below (g := gb124) (o := .cells #[.int .i64 a0_0, .int .i64 a0_1, .string a0_2, .int .i64 a0_3, .int .i64 a0_4] 38 (0, 0)) (by (with_reducible repeat (first | refine blk_drewN ?_ _ | refine blk_drew ?_ | refine blk_alloc ?_ _)); exact BK124.out) hb); have n1_ := Aside0.mk (below_step (by repeat (first | (with_reducible first | exact HB.out | apply below_alloc | apply pw_below_drewN | apply below_drew1 | refine below_set ?_ GE124.out) | exact HB.out)) hb); have n2_ := Aside0.mk (hbox); have n3_ := Aside0.mk ((by rw [hg]; exact (below_size (by repeat (first | (with_reducible first | exact HB.out | apply below_alloc | apply pw_below_drewN | apply below_drew1 | refine below_set ?_ GE124.out) | exact HB.out))) : w.heap.size ≤ gb125)); have n4_ := Aside0.mk ((by rw [hg]; exact (below_size (by repeat (first | (with_reducible first | exact HB.out | apply below_alloc | apply pw_below_drewN | apply below_drew1 | refine below_set ?_ GE124.out) | exact HB.out))) : w.heap.size ≤ gb125)); have n5_ := Aside0.mk ((by rw [hg]; exact Nat.ne_of_lt (blk_lt (g := gb124) (o := .cells #[.int .i64 a0_0, .int .i64 a0_1, .string a0_2, .int .i64 a0_3, .int .i64 a0_4] 38 (0, 0)) (by (with_reducible repeat (first | refine blk_drewN ?_ _ | refine blk_drew ?_ | refine blk_alloc ?_ _)); exact BK124.out)) : gb124 ≠ gb125)); have n6_ := Aside0.mk ((by rw [hg]; exact Nat.ne_of_gt (blk_lt (g := gb124) (o := .cells #[.int .i64 a0_0, .int .i64 a0_1, .string a0_2, .int .i64 a0_3, .int .i64 a0_4] 38 (0, 0)) (by (with_reducible repeat (first | refine blk_drewN ?_ _ | refine blk_drew ?_ | refine blk_alloc ?_ _)); exact BK124.out)) : gb125 ≠ gb124)); clear BK124; clear HB; have BK124 := n0_; have HB := n1_; have BK125 := n2_; have GW125 := n3_; have GE125 := n4_; have NB124_125 := n5_; have NB125_124 := n6_; clear n0_ n1_ n2_ n3_ n4_ n5_ n6_; clear hb hbox hg))
  replace BK124 := Aside0.mk (blk_drew BK124.out)
  replace BK125 := Aside0.mk (blk_drew BK125.out)
  replace HB := Aside0.mk (below_drew1 HB.out)
  refine start_ (n := 13) (S := fun w' => w'.cell? ⟨gb124, 0, none⟩ = some (.int .i64 a0_0) ∧ w'.cell? ⟨gb124, 1, none⟩ = some (.int .i64 a0_1) ∧ w'.cell? ⟨gb124, 2, none⟩ = some (.string a0_2) ∧ w'.cell? ⟨gb124, 3, none⟩ = some (.int .i64 a0_3) ∧ w'.cell? ⟨gb124, 4, none⟩ = some (.int .i64 a0_4) ∧ w'.cell? ⟨gb125, 0, none⟩ = some (.int .i64 a1_0) ∧ w'.cell? ⟨gb125, 1, none⟩ = some (.int .i64 a1_1) ∧ w'.cell? ⟨gb125, 2, none⟩ = some (.string a1_2) ∧ w'.cell? ⟨gb125, 3, none⟩ = some (.int .i64 a1_3) ∧ w'.cell? ⟨gb125, 4, none⟩ = some (.int .i64 a1_4)) (ds := []) #[X,X,X,X,X,X,X,X,X,X,X,X,X] (by kernel_rfl) rfl rfl ⟨(blk_cell BK124.out 0).trans rfl, (blk_cell BK124.out 1).trans rfl, (blk_cell BK124.out 2).trans rfl, (blk_cell BK124.out 3).trans rfl, (blk_cell BK124.out 4).trans rfl, (blk_cell BK125.out 0).trans rfl, (blk_cell BK125.out 1).trans rfl, (blk_cell BK125.out 2).trans rfl, (blk_cell BK125.out 3).trans rfl, (blk_cell BK125.out 4).trans rfl⟩ (fun hHeld => ?_); refine with_tabW lex_apart.tab1 lex_apart.bits1 (fun HT_ HW_ => ?_)
  generalize w15.drew = w16 at BK124 BK125 HB hHeld ⊢
  refine take_ (i := 0) (N := some 9) (v := ?_) (a' := ?_) #[Y,X,X,X,X,X,X,X,X,X,X,X,X] rfl rfl (take_ofW HT_.out HW_.out (by kernel_rfl)) (fun _ _ _ h => h) (Or.inl ⟨by rfl, ?_⟩) hHeld ?_ ?_
  rotate_left
  ·rintro w' ⟨s0, s1, s2, s3, s4, s5, s6, s7, s8, s9⟩
   go_simp
   with_reducible rfl
  rotate_left
  ·simp only [qa_]
   rfl
  refine take_ (i := 2) (N := some 11) (v := ?_) (a' := ?_) #[Y,X,Y,X,X,X,X,X,X,X,X,X,X] rfl rfl (take_ofW HT_.out HW_.out (by kernel_rfl)) (fun _ _ _ h => h) (Or.inl ⟨by rfl, ?_⟩) hHeld ?_ ?_
  rotate_left
  ·rintro w' ⟨s0, s1, s2, s3, s4, s5, s6, s7, s8, s9⟩
   go_simp
   with_reducible rfl
  rotate_left
  ·simp only [qa_]
   rfl
  refine one_ (i := 1) (N := some 10) #[Y,Y,Y,X,X,X,X,X,X,X,X,X,X] rfl rfl (one_of HT_.out (by kernel_rfl)) (by decide) (fun K hK => ?_)
  refine goes_ Tryz.func53 (by kernel_rfl) rfl #[.agg #[.int .i64 a0_0, .int .i64 a0_1, .string a0_2, .int .i64 a0_3, .int .i64 a0_4]] (by rfl) rfl rfl (by (try simp only [List.map_toArray, List.map_cons, List.map_nil]); first | done | rfl | (simp only [List.length_drop, List.length_take]; rfl)) ?_
  with_reducible refine (lex_written.calls a0_0 a0_1 a0_2 a0_3 a0_4 t126 _ A3.out ?side1).mono ?_
  (case side1 => exact GL.below HG.out (by repeat (first | (with_reducible first | exact HB.out | apply below_alloc | apply pw_below_drewN | apply below_drew1 | refine below_set ?_ GE124.out | refine below_set ?_ GE125.out) | exact HB.out)))
  rintro e w17 ⟨rfl, hb⟩
  refine ⟨_, rfl, ?_⟩
  replace BK124 := Aside0.mk (blk_below (g := gb124) (o := .cells #[.int .i64 a0_0, .int .i64 a0_1, .string a0_2, .int .i64 a0_3, .int .i64 a0_4] 38 (0, 0)) (by (with_reducible repeat (first | refine blk_drewN ?_ _ | refine blk_drew ?_ | refine blk_alloc ?_ _)); exact BK124.out) hb)
  replace BK125 := Aside0.mk (blk_below (g := gb125) (o := .cells #[.int .i64 a1_0, .int .i64 a1_1, .string a1_2, .int .i64 a1_3, .int .i64 a1_4] 38 (0, 0)) (by (with_reducible repeat (first | refine blk_drewN ?_ _ | refine blk_drew ?_ | refine blk_alloc ?_ _)); exact BK125.out) hb)
  replace HB := Aside0.mk (below_step (by repeat (first | (with_reducible first | exact HB.out | apply below_alloc | apply pw_below_drewN | apply below_drew1 | refine below_set ?_ GE124.out | refine below_set ?_ GE125.out) | exact HB.out)) hb)
  (try clear hb); (try clear hb2); (try clear hk); (try clear hi)
  refine hK.out _ _ ⟨(blk_cell BK124.out 0).trans rfl, (blk_cell BK124.out 1).trans rfl, (blk_cell BK124.out 2).trans rfl, (blk_cell BK124.out 3).trans rfl, (blk_cell BK124.out 4).trans rfl, (blk_cell BK125.out 0).trans rfl, (blk_cell BK125.out 1).trans rfl, (blk_cell BK125.out 2).trans rfl, (blk_cell BK125.out 3).trans rfl, (blk_cell BK125.out 4).trans rfl⟩ (fun hHeld => ?_)
  clear hK K
  refine norm_ (a' := ?_) ?_ ?_
  rotate_left
  ·show Act.put _ (some 10) _ = _
   simp only [qa_]
   rfl
  refine one_ (i := 3) (N := some 12) #[Y,Y,Y,Y,X,X,X,X,X,X,X,X,X] rfl rfl (one_of HT_.out (by kernel_rfl)) (by decide) (fun K hK => ?_)
  refine goes_ Tryz.func53 (by kernel_rfl) rfl #[.agg #[.int .i64 a1_0, .int .i64 a1_1, .string a1_2, .int .i64 a1_3, .int .i64 a1_4]] (by rfl) rfl rfl (by (try simp only [List.map_toArray, List.map_cons, List.map_nil]); first | done | rfl | (simp only [List.length_drop, List.length_take]; rfl)) ?_
  with_reducible refine (lex_written.calls a1_0 a1_1 a1_2 a1_3 a1_4 t127 _ A4.out ?side1).mono ?_
  (case side1 => exact GL.below HG.out (by repeat (first | (with_reducible first | exact HB.out | apply below_alloc | apply pw_below_drewN | apply below_drew1 | refine below_set ?_ GE124.out | refine below_set ?_ GE125.out) | exact HB.out)))
  rintro e w18 ⟨rfl, hb⟩
  refine ⟨_, rfl, ?_⟩
  replace BK124 := Aside0.mk (blk_below (g := gb124) (o := .cells #[.int .i64 a0_0, .int .i64 a0_1, .string a0_2, .int .i64 a0_3, .int .i64 a0_4] 38 (0, 0)) (by (with_reducible repeat (first | refine blk_drewN ?_ _ | refine blk_drew ?_ | refine blk_alloc ?_ _)); exact BK124.out) hb)
  replace BK125 := Aside0.mk (blk_below (g := gb125) (o := .cells #[.int .i64 a1_0, .int .i64 a1_1, .string a1_2, .int .i64 a1_3, .int .i64 a1_4] 38 (0, 0)) (by (with_reducible repeat (first | refine blk_drewN ?_ _ | refine blk_drew ?_ | refine blk_alloc ?_ _)); exact BK125.out) hb)
  replace HB := Aside0.mk (below_step (by repeat (first | (with_reducible first | exact HB.out | apply below_alloc | apply pw_below_drewN | apply below_drew1 | refine below_set ?_ GE124.out | refine below_set ?_ GE125.out) | exact HB.out)) hb)
  (try clear hb); (try clear hb2); (try clear hk); (try clear hi)
  refine hK.out _ _ ⟨(blk_cell BK124.out 0).trans rfl, (blk_cell BK124.out 1).trans rfl, (blk_cell BK124.out 2).trans rfl, (blk_cell BK124.out 3).trans rfl, (blk_cell BK124.out 4).trans rfl, (blk_cell BK125.out 0).trans rfl, (blk_cell BK125.out 1).trans rfl, (blk_cell BK125.out 2).trans rfl, (blk_cell BK125.out 3).trans rfl, (blk_cell BK125.out 4).trans rfl⟩ (fun hHeld => ?_)
  clear hK K
  refine norm_ (a' := ?_) ?_ ?_
  rotate_left
  ·show Act.put _ (some 12) _ = _
   simp only [qa_]
   rfl
  refine p1_ 4 13 ?_ #[Y,Y,Y,Y,Y,X,X,X,X,X,X,X,X] rfl rfl (any_of HT_.out (by kernel_rfl)) (fun _ _ _ h => h) (by rfl) ?_ ?_ ?_ ?_
  rotate_left
  ·intro w'
   go_simp
   with_reducible rfl
  rotate_left
  ·simp only [qa_]
   rfl
  refine one_ (i := 5) (N := some 14) #[Y,Y,Y,Y,Y,Y,X,X,X,X,X,X,X] rfl rfl (one_of HT_.out (by kernel_rfl)) (by decide) (fun K hK => ?_)
  refine goes_ Tryz.func13 (by kernel_rfl) rfl #[.string (t126 ++ t127)] (by rfl) rfl rfl (by (try simp only [List.map_toArray, List.map_cons, List.map_nil]); first | done | rfl | (simp only [List.length_drop, List.length_take]; rfl)) ?_
  with_reducible refine (lex_Tokens.calls (t126 ++ t127) t128 t129 t130 _ A6.out ?side1).mono ?_
  (case side1 => exact GL.below HG.out (by repeat (first | (with_reducible first | exact HB.out | apply below_alloc | apply pw_below_drewN | apply below_drew1 | refine below_set ?_ GE124.out | refine below_set ?_ GE125.out) | exact HB.out)))
  rintro e w19 ⟨v131, rfl, ho0, hb⟩
  refine ⟨_, rfl, ?_⟩
  have n0_ := Aside0.mk (Kd.R_lower (Kd.R_newB (Kd.R_newB ho0 (g := gb124) (o := .cells #[.int .i64 a0_0, .int .i64 a0_1, .string a0_2, .int .i64 a0_3, .int .i64 a0_4] 38 (0, 0)) (by (with_reducible repeat (first | refine blk_drewN ?_ _ | refine blk_drew ?_ | refine blk_alloc ?_ _)); exact BK124.out)) (g := gb125) (o := .cells #[.int .i64 a1_0, .int .i64 a1_1, .string a1_2, .int .i64 a1_3, .int .i64 a1_4] 38 (0, 0)) (by (with_reducible repeat (first | refine blk_drewN ?_ _ | refine blk_drew ?_ | refine blk_alloc ?_ _)); exact BK125.out)) (below_size (by repeat (first | (with_reducible first | exact HB.out | apply below_alloc | apply pw_below_drewN | apply below_drew1 | refine below_set ?_ GE124.out | refine below_set ?_ GE125.out) | exact HB.out))))
  have n1_ := Aside0.mk (blk_below (g := gb124) (o := .cells #[.int .i64 a0_0, .int .i64 a0_1, .string a0_2, .int .i64 a0_3, .int .i64 a0_4] 38 (0, 0)) (by (with_reducible repeat (first | refine blk_drewN ?_ _ | refine blk_drew ?_ | refine blk_alloc ?_ _)); exact BK124.out) hb)
  have n2_ := Aside0.mk (blk_below (g := gb125) (o := .cells #[.int .i64 a1_0, .int .i64 a1_1, .string a1_2, .int .i64 a1_3, .int .i64 a1_4] 38 (0, 0)) (by (with_reducible repeat (first | refine blk_drewN ?_ _ | refine blk_drew ?_ | refine blk_alloc ?_ _)); exact BK125.out) hb)
  have n3_ := Aside0.mk (below_step (by repeat (first | (with_reducible first | exact HB.out | apply below_alloc | apply pw_below_drewN | apply below_drew1 | refine below_set ?_ GE124.out | refine below_set ?_ GE125.out) | exact HB.out)) hb)
  clear BK124
  clear BK125
  clear HB
  have HO132 := n0_
  have BK124 := n1_
  have BK125 := n2_
  have HB := n3_
  clear n0_ n1_ n2_ n3_
  (try clear hb); (try clear hb2); (try clear hk); (try clear hi)
  (try clear ho0)
  refine hK.out _ _ ⟨(blk_cell BK124.out 0).trans rfl, (blk_cell BK124.out 1).trans rfl, (blk_cell BK124.out 2).trans rfl, (blk_cell BK124.out 3).trans rfl, (blk_cell BK124.out 4).trans rfl, (blk_cell BK125.out 0).trans rfl, (blk_cell BK125.out 1).trans rfl, (blk_cell BK125.out 2).trans rfl, (blk_cell BK125.out 3).trans rfl, (blk_cell BK125.out 4).trans rfl⟩ (fun hHeld => ?_)
  clear hK K
  refine norm_ (a' := ?_) ?_ ?_
  rotate_left
  ·show Act.put _ (some 14) _ = _
   simp only [qa_]
   rfl
  refine p1_ 6 8 ?_ #[Y,Y,Y,Y,Y,Y,Y,X,X,X,X,X,X] rfl rfl (any_of HT_.out (by kernel_rfl)) (fun _ _ _ h => h) (by rfl) ?_ ?_ ?_ ?_
  rotate_left
  ·intro w'
   go_simp
   with_reducible rfl
  rotate_left
  ·simp only [qa_]
   rfl
  refine p1_ 7 15 ?_ #[Y,Y,Y,Y,Y,Y,Y,Y,X,X,X,X,X] rfl rfl (any_of HT_.out (by kernel_rfl)) (fun _ _ _ h => h) (by rfl) ?_ ?_ ?_ ?_
  rotate_left
  ·intro w'
   go_simp
   with_reducible rfl
  rotate_left
  ·simp only [qa_]
   rfl
  refine p1_ 8 16 ?_ #[Y,Y,Y,Y,Y,Y,Y,Y,Y,X,X,X,X] rfl rfl (any_of HT_.out (by kernel_rfl)) (fun _ _ _ h => h) (by rfl) ?_ ?_ ?_ ?_
  rotate_left
  ·intro w'
   go_simp
   with_reducible rfl
  rotate_left
  ·simp only [qa_]
   rfl
  refine p1_ 9 17 ?_ #[Y,Y,Y,Y,Y,Y,Y,Y,Y,Y,X,X,X] rfl rfl (any_of HT_.out (by kernel_rfl)) (fun _ _ _ h => h) (by rfl) ?_ ?_ ?_ ?_
  rotate_left
  ·intro w'
   go_simp
   with_reducible rfl
  rotate_left
  ·simp only [qa_]
   rfl
  refine p1_ 10 5 ?_ #[Y,Y,Y,Y,Y,Y,Y,Y,Y,Y,Y,X,X] rfl rfl (any_of HT_.out (by kernel_rfl)) (fun _ _ _ h => h) (by rfl) ?_ ?_ ?_ ?_
  rotate_left
  ·intro w'
   go_simp
   with_reducible rfl
  rotate_left
  ·simp only [qa_]
   rfl
  refine p1_ 11 6 ?_ #[Y,Y,Y,Y,Y,Y,Y,Y,Y,Y,Y,Y,X] rfl rfl (any_of HT_.out (by kernel_rfl)) (fun _ _ _ h => h) (by rfl) ?_ ?_ ?_ ?_
  rotate_left
  ·intro w'
   go_simp
   with_reducible rfl
  rotate_left
  ·simp only [qa_]
   rfl
  refine p1_ 12 7 ?_ #[Y,Y,Y,Y,Y,Y,Y,Y,Y,Y,Y,Y,Y] rfl rfl (any_of HT_.out (by kernel_rfl)) (fun _ _ _ h => h) (by rfl) ?_ ?_ ?_ ?_
  rotate_left
  ·intro w'
   go_simp
   with_reducible rfl
  rotate_left
  ·simp only [qa_]
   rfl
  refine done_ (done_of HT_.out (by kernel_rfl)) ?_
  try go_wp2
  replace HO132 := Aside0.mk (Kd.R_drew HO132.out)
  replace BK124 := Aside0.mk (blk_drew BK124.out)
  replace BK125 := Aside0.mk (blk_drew BK125.out)
  replace HB := Aside0.mk (below_drew1 HB.out)
  have H := HH_.out
  clear HH_
  by_cases c7 : t130 = 0
  ·rw [if_pos c7] at H
   have c7b0 : (t130 == 0) = true := beq_iff_eq.mpr c7
   have c7b1 : (t130 != 0) = false := bne_eq_false_iff_eq.mpr c7
   clear c7
   by_cases c8 : (t128.length : Int) = 2
   ·rw [if_pos c8] at H
    have c8b0 : ((t128.length : Int) == 2) = true := beq_iff_eq.mpr c8
    have c8b1 : ((t128.length : Int) != 2) = false := bne_eq_false_iff_eq.mpr c8
    clear c8
    by_cases c9 : 0 < (t128.length : Int)
    ·rw [if_pos c9] at H
     have c9b0 : decide (0 < (t128.length : Int)) = true := decide_eq_true c9
     have c9b1 : decide (0 < t128.length) = true := decide_eq_true (by omega)
     clear c9
     replace H := Option.bind_eq_some_iff.mp H
     obtain ⟨t134, A100, H⟩ := H
     replace H : (if t134 = true then (if 1 < (t128.length : Int) then ((lex_same.f ((rd_T38 t128 1).f0) ((rd_T38 t128 1).f1) ((rd_T38 t128 1).f2) ((rd_T38 t128 1).f3) ((rd_T38 t128 1).f4) a1_0 a1_1 a1_2 a1_3 a1_4).bind fun t136 => (some t136)) else (none)) else (some false)) = some r := H
     have A10 := Aside0.mk A100
     clear A100
     by_cases c11 : t134 = true
     ·subst c11
      have H1 : (if 1 < (t128.length : Int) then ((lex_same.f ((rd_T38 t128 1).f0) ((rd_T38 t128 1).f1) ((rd_T38 t128 1).f2) ((rd_T38 t128 1).f3) ((rd_T38 t128 1).f4) a1_0 a1_1 a1_2 a1_3 a1_4).bind fun t136 => (some t136)) else (none)) = some r := by rw [if_pos rfl] at H; exact H
      clear H
      have H := H1
      clear H1
      by_cases c12 : 1 < (t128.length : Int)
      ·rw [if_pos c12] at H
       have c12b0 : decide (1 < (t128.length : Int)) = true := decide_eq_true c12
       have c12b1 : decide (1 < t128.length) = true := decide_eq_true (by omega)
       clear c12
       replace H := Option.bind_eq_some_iff.mp H
       obtain ⟨t136, A130, H⟩ := H
       replace H : (some t136) = some r := H
       have A13 := Aside0.mk A130
       clear A130
       obtain rfl := Option.some.inj H
       obtain ⟨Ao21, co21, eo21⟩ := Kd.R_slice HO132.out
       (first | subst eo21 | (injection eo21 with f1_ f2_ f3_; have f4_ := f1_.symm; have f5_ := f3_.symm; clear f1_ f2_ f3_; subst f4_; subst f5_))
       have p133 : 0 ≤ (0 : Int) := (by omega)
       have q133 : 0 < (t128.length : Int) := of_decide_eq_true (by first | (with_reducible assumption) | assumption)
       obtain ⟨ad133, e133, hx133_0, hx133_1, hx133_2, hx133_3, hx133_4⟩ := at_T38 (Kd.R_reads' HO132.out).2.2 0 p133 q133
       cases e133
       have qi133 : (0 < t128.length) = True := eq_true (by omega)
       (try rw [show ((0 : Int)).toNat = 0 from rfl] at hx133_0)
       (try rw [show 0 * 5 = 0 from rfl] at hx133_0)
       (try rw [Addr.add_zero'] at hx133_0)
       (try rw [show ((0 : Int)).toNat = 0 from rfl] at hx133_1)
       (try rw [show 0 * 5 = 0 from rfl] at hx133_1)
       (try rw [Addr.add_zero'] at hx133_1)
       (try rw [show ((0 : Int)).toNat = 0 from rfl] at hx133_2)
       (try rw [show 0 * 5 = 0 from rfl] at hx133_2)
       (try rw [Addr.add_zero'] at hx133_2)
       (try rw [show ((0 : Int)).toNat = 0 from rfl] at hx133_3)
       (try rw [show 0 * 5 = 0 from rfl] at hx133_3)
       (try rw [Addr.add_zero'] at hx133_3)
       (try rw [show ((0 : Int)).toNat = 0 from rfl] at hx133_4)
       (try rw [show 0 * 5 = 0 from rfl] at hx133_4)
       (try rw [Addr.add_zero'] at hx133_4)
       replace p133 := eq_true p133
       replace q133 := eq_true q133
       have p135 : 0 ≤ (1 : Int) := (by omega)
       have q135 : 1 < (t128.length : Int) := of_decide_eq_true (by first | (with_reducible assumption) | assumption)
       obtain ⟨ad135, e135, hx135_0, hx135_1, hx135_2, hx135_3, hx135_4⟩ := at_T38 (Kd.R_reads' HO132.out).2.2 1 p135 q135
       obtain rfl : ad133 = ad135 := (by injection e135)
       (try simp only [show (1 : Int).toNat = 1 from rfl, Nat.reduceMul, Nat.reduceEqDiff, Go.Addr.add, ↓reduceIte] at hx135_0)
       (try simp only [show (1 : Int).toNat = 1 from rfl, Nat.reduceMul, Nat.reduceEqDiff, Go.Addr.add, ↓reduceIte] at hx135_1)
       (try simp only [show (1 : Int).toNat = 1 from rfl, Nat.reduceMul, Nat.reduceEqDiff, Go.Addr.add, ↓reduceIte] at hx135_2)
       (try simp only [show (1 : Int).toNat = 1 from rfl, Nat.reduceMul, Nat.reduceEqDiff, Go.Addr.add, ↓reduceIte] at hx135_3)
       (try simp only [show (1 : Int).toNat = 1 from rfl, Nat.reduceMul, Nat.reduceEqDiff, Go.Addr.add, ↓reduceIte] at hx135_4)
       have qi135 : (1 < t128.length) = True := eq_true (by omega)
       (try rw [show ((1 : Int)).toNat = 1 from rfl] at hx135_0)
       (try rw [show 1 * 5 = 5 from rfl] at hx135_0)
       (try rw [show ((1 : Int)).toNat = 1 from rfl] at hx135_1)
       (try rw [show 1 * 5 = 5 from rfl] at hx135_1)
       (try rw [show ((1 : Int)).toNat = 1 from rfl] at hx135_2)
       (try rw [show 1 * 5 = 5 from rfl] at hx135_2)
       (try rw [show ((1 : Int)).toNat = 1 from rfl] at hx135_3)
       (try rw [show 1 * 5 = 5 from rfl] at hx135_3)
       (try rw [show ((1 : Int)).toNat = 1 from rfl] at hx135_4)
       (try rw [show 1 * 5 = 5 from rfl] at hx135_4)
       replace p135 := eq_true p135
       replace q135 := eq_true q135
       refine start_ (n := 22) (S := fun w' => w'.cell? ⟨gb124, 0, none⟩ = some (.int .i64 a0_0) ∧ w'.cell? ⟨gb124, 1, none⟩ = some (.int .i64 a0_1) ∧ w'.cell? ⟨gb124, 2, none⟩ = some (.string a0_2) ∧ w'.cell? ⟨gb124, 3, none⟩ = some (.int .i64 a0_3) ∧ w'.cell? ⟨gb124, 4, none⟩ = some (.int .i64 a0_4) ∧ w'.cell? ⟨gb125, 0, none⟩ = some (.int .i64 a1_0) ∧ w'.cell? ⟨gb125, 1, none⟩ = some (.int .i64 a1_1) ∧ w'.cell? ⟨gb125, 2, none⟩ = some (.string a1_2) ∧ w'.cell? ⟨gb125, 3, none⟩ = some (.int .i64 a1_3) ∧ w'.cell? ⟨gb125, 4, none⟩ = some (.int .i64 a1_4) ∧ w'.cell? ad133 = some (.int .i64 ((rd_T38 t128 0).f0)) ∧ w'.cell? ⟨ad133.block, ad133.off + 1, none⟩ = some (.int .i64 ((rd_T38 t128 0).f1)) ∧ w'.cell? ⟨ad133.block, ad133.off + 2, none⟩ = some (.string ((rd_T38 t128 0).f2)) ∧ w'.cell? ⟨ad133.block, ad133.off + 3, none⟩ = some (.int .i64 ((rd_T38 t128 0).f3)) ∧ w'.cell? ⟨ad133.block, ad133.off + 4, none⟩ = some (.int .i64 ((rd_T38 t128 0).f4)) ∧ w'.cell? ⟨ad133.block, ad133.off + 5, none⟩ = some (.int .i64 ((rd_T38 t128 1).f0)) ∧ w'.cell? ⟨ad133.block, ad133.off + 5 + 1, none⟩ = some (.int .i64 ((rd_T38 t128 1).f1)) ∧ w'.cell? ⟨ad133.block, ad133.off + 5 + 2, none⟩ = some (.string ((rd_T38 t128 1).f2)) ∧ w'.cell? ⟨ad133.block, ad133.off + 5 + 3, none⟩ = some (.int .i64 ((rd_T38 t128 1).f3)) ∧ w'.cell? ⟨ad133.block, ad133.off + 5 + 4, none⟩ = some (.int .i64 ((rd_T38 t128 1).f4))) (ds := []) #[X,X,X,X,X,X,X,X,X,X,X,X,X,X,X,X,X,X,X,X,X,X] (by kernel_rfl) rfl rfl ⟨(blk_cell BK124.out 0).trans rfl, (blk_cell BK124.out 1).trans rfl, (blk_cell BK124.out 2).trans rfl, (blk_cell BK124.out 3).trans rfl, (blk_cell BK124.out 4).trans rfl, (blk_cell BK125.out 0).trans rfl, (blk_cell BK125.out 1).trans rfl, (blk_cell BK125.out 2).trans rfl, (blk_cell BK125.out 3).trans rfl, (blk_cell BK125.out 4).trans rfl, hx133_0, hx133_1, hx133_2, hx133_3, hx133_4, hx135_0, hx135_1, hx135_2, hx135_3, hx135_4⟩ (fun hHeld => ?_); refine with_tabW lex_apart.tab2 lex_apart.bits2 (fun HT_ HW_ => ?_)
       generalize w19.drew = w20 at HO132 BK124 BK125 HB hx133_0 hx133_1 hx133_2 hx133_3 hx133_4 hx135_0 hx135_1 hx135_2 hx135_3 hx135_4 hHeld ⊢
       refine p1_ 0 18 ?_ #[Y,X,X,X,X,X,X,X,X,X,X,X,X,X,X,X,X,X,X,X,X,X] rfl rfl (any_of HT_.out (by kernel_rfl)) (fun _ _ _ h => h) (by rfl) ?_ ?_ ?_ ?_
       rotate_left
       ·intro w'
        go_simp
        with_reducible rfl
       rotate_left
       ·simp only [qa_]
        rfl
       refine p1_ 1 19 ?_ #[Y,Y,X,X,X,X,X,X,X,X,X,X,X,X,X,X,X,X,X,X,X,X] rfl rfl (any_of HT_.out (by kernel_rfl)) (fun _ _ _ h => h) (by rfl) ?_ ?_ ?_ ?_
       rotate_left
       ·intro w'
        go_simp
        with_reducible rfl
       rotate_left
       ·simp only [qa_]
        rfl
       refine p1_ 2 20 ?_ #[Y,Y,Y,X,X,X,X,X,X,X,X,X,X,X,X,X,X,X,X,X,X,X] rfl rfl (any_of HT_.out (by kernel_rfl)) (fun _ _ _ h => h) (by rfl) ?_ ?_ ?_ ?_
       rotate_left
       ·intro w'
        go_simp
        with_reducible rfl
       rotate_left
       ·simp only [qa_]
        rfl
       refine p1_ 3 21 ?_ #[Y,Y,Y,Y,X,X,X,X,X,X,X,X,X,X,X,X,X,X,X,X,X,X] rfl rfl (any_of HT_.out (by kernel_rfl)) (fun _ _ _ h => h) (by rfl) ?_ ?_ ?_ ?_
       rotate_left
       ·intro w'
        go_simp
        with_reducible rfl
       rotate_left
       ·simp only [qa_]
        rfl
       refine p1_ 4 22 ?_ #[Y,Y,Y,Y,Y,X,X,X,X,X,X,X,X,X,X,X,X,X,X,X,X,X] rfl rfl (any_of HT_.out (by kernel_rfl)) (fun _ _ _ h => h) (by rfl) ?_ ?_ ?_ ?_
       rotate_left
       ·intro w'
        go_simp
        with_reducible rfl
       rotate_left
       ·simp only [qa_]
        rfl
       refine p1_ 5 23 ?_ #[Y,Y,Y,Y,Y,Y,X,X,X,X,X,X,X,X,X,X,X,X,X,X,X,X] rfl rfl (any_of HT_.out (by kernel_rfl)) (fun _ _ _ h => h) (by rfl) ?_ ?_ ?_ ?_
       rotate_left
       ·intro w'
        go_simp
        with_reducible rfl
       rotate_left
       ·simp only [qa_]
        rfl
       refine p1_ 6 24 ?_ #[Y,Y,Y,Y,Y,Y,Y,X,X,X,X,X,X,X,X,X,X,X,X,X,X,X] rfl rfl (any_of HT_.out (by kernel_rfl)) (fun _ _ _ h => h) (by rfl) ?_ ?_ ?_ ?_
       rotate_left
       ·intro w'
        go_simp
        with_reducible rfl
       rotate_left
       ·simp only [qa_]
        rfl
       refine p1_ 7 25 ?_ #[Y,Y,Y,Y,Y,Y,Y,Y,X,X,X,X,X,X,X,X,X,X,X,X,X,X] rfl rfl (any_of HT_.out (by kernel_rfl)) (fun _ _ _ h => h) (by rfl) ?_ ?_ ?_ ?_
       rotate_left
       ·intro w'
        go_simp
        with_reducible rfl
       rotate_left
       ·simp only [qa_]
        rfl
       refine p1_ 8 26 ?_ #[Y,Y,Y,Y,Y,Y,Y,Y,Y,X,X,X,X,X,X,X,X,X,X,X,X,X] rfl rfl (any_of HT_.out (by kernel_rfl)) (fun _ _ _ h => h) (by rfl) ?_ ?_ ?_ ?_
       rotate_left
       ·intro w'
        go_simp
        with_reducible rfl
       rotate_left
       ·simp only [qa_]
        rfl
       refine p1_ 9 27 ?_ #[Y,Y,Y,Y,Y,Y,Y,Y,Y,Y,X,X,X,X,X,X,X,X,X,X,X,X] rfl rfl (any_of HT_.out (by kernel_rfl)) (fun _ _ _ h => h) (by rfl) ?_ ?_ ?_ ?_
       rotate_left
       ·intro w'
        go_simp
        with_reducible rfl
       rotate_left
       ·simp only [qa_]
        rfl
       refine take_ (i := 10) (N := some 28) (v := ?_) (a' := ?_) #[Y,Y,Y,Y,Y,Y,Y,Y,Y,Y,Y,X,X,X,X,X,X,X,X,X,X,X] rfl rfl (take_ofW HT_.out HW_.out (by kernel_rfl)) (fun _ _ _ h => h) (Or.inl ⟨by rfl, ?_⟩) hHeld ?_ ?_
       rotate_left
       ·rintro w' ⟨s0, s1, s2, s3, s4, s5, s6, s7, s8, s9, s10, s11, s12, s13, s14, s15, s16, s17, s18, s19⟩
        go_simp
        with_reducible rfl
       rotate_left
       ·simp only [qa_]
        rfl
       refine take_ (i := 11) (N := some 29) (v := ?_) (a' := ?_) #[Y,Y,Y,Y,Y,Y,Y,Y,Y,Y,Y,Y,X,X,X,X,X,X,X,X,X,X] rfl rfl (take_ofW HT_.out HW_.out (by kernel_rfl)) (fun _ _ _ h => h) (Or.inl ⟨by rfl, ?_⟩) hHeld ?_ ?_
       rotate_left
       ·rintro w' ⟨s0, s1, s2, s3, s4, s5, s6, s7, s8, s9, s10, s11, s12, s13, s14, s15, s16, s17, s18, s19⟩
        go_simp
        with_reducible rfl
       rotate_left
       ·simp only [qa_]
        rfl
       refine one_ (i := 12) (N := some 30) #[Y,Y,Y,Y,Y,Y,Y,Y,Y,Y,Y,Y,Y,X,X,X,X,X,X,X,X,X] rfl rfl (one_of HT_.out (by kernel_rfl)) (by decide) (fun K hK => ?_)
       refine goes_ Tryz.func77 (by kernel_rfl) rfl #[.agg #[.int .i64 ((rd_T38 t128 0).f0), .int .i64 ((rd_T38 t128 0).f1), .string ((rd_T38 t128 0).f2), .int .i64 ((rd_T38 t128 0).f3), .int .i64 ((rd_T38 t128 0).f4)], .agg #[.int .i64 a0_0, .int .i64 a0_1, .string a0_2, .int .i64 a0_3, .int .i64 a0_4]] (by rfl) rfl rfl (by (try simp only [List.map_toArray, List.map_cons, List.map_nil]); first | done | rfl | (simp only [List.length_drop, List.length_take]; rfl)) ?_
       with_reducible refine (lex_same.calls ((rd_T38 t128 0).f0) ((rd_T38 t128 0).f1) ((rd_T38 t128 0).f2) ((rd_T38 t128 0).f3) ((rd_T38 t128 0).f4) a0_0 a0_1 a0_2 a0_3 a0_4 true _ A10.out).mono ?_
       rintro e w22 ⟨rfl, hb⟩
       have HS10_ := (hb.cell (World.block_lt_of_cell? _ _ (hHeld.2.2.2.2.2.2.2.2.2.2.1))).trans (hHeld.2.2.2.2.2.2.2.2.2.2.1)
       have HS11_ := (hb.cell (World.block_lt_of_cell? _ _ (hHeld.2.2.2.2.2.2.2.2.2.2.2.1))).trans (hHeld.2.2.2.2.2.2.2.2.2.2.2.1)
       have HS12_ := (hb.cell (World.block_lt_of_cell? _ _ (hHeld.2.2.2.2.2.2.2.2.2.2.2.2.1))).trans (hHeld.2.2.2.2.2.2.2.2.2.2.2.2.1)
       have HS13_ := (hb.cell (World.block_lt_of_cell? _ _ (hHeld.2.2.2.2.2.2.2.2.2.2.2.2.2.1))).trans (hHeld.2.2.2.2.2.2.2.2.2.2.2.2.2.1)
       have HS14_ := (hb.cell (World.block_lt_of_cell? _ _ (hHeld.2.2.2.2.2.2.2.2.2.2.2.2.2.2.1))).trans (hHeld.2.2.2.2.2.2.2.2.2.2.2.2.2.2.1)
       have HS15_ := (hb.cell (World.block_lt_of_cell? _ _ (hHeld.2.2.2.2.2.2.2.2.2.2.2.2.2.2.2.1))).trans (hHeld.2.2.2.2.2.2.2.2.2.2.2.2.2.2.2.1)
       have HS16_ := (hb.cell (World.block_lt_of_cell? _ _ (hHeld.2.2.2.2.2.2.2.2.2.2.2.2.2.2.2.2.1))).trans (hHeld.2.2.2.2.2.2.2.2.2.2.2.2.2.2.2.2.1)
       have HS17_ := (hb.cell (World.block_lt_of_cell? _ _ (hHeld.2.2.2.2.2.2.2.2.2.2.2.2.2.2.2.2.2.1))).trans (hHeld.2.2.2.2.2.2.2.2.2.2.2.2.2.2.2.2.2.1)
       have HS18_ := (hb.cell (World.block_lt_of_cell? _ _ (hHeld.2.2.2.2.2.2.2.2.2.2.2.2.2.2.2.2.2.2.1))).trans (hHeld.2.2.2.2.2.2.2.2.2.2.2.2.2.2.2.2.2.2.1)
       have HS19_ := (hb.cell (World.block_lt_of_cell? _ _ (hHeld.2.2.2.2.2.2.2.2.2.2.2.2.2.2.2.2.2.2.2))).trans (hHeld.2.2.2.2.2.2.2.2.2.2.2.2.2.2.2.2.2.2.2)
       refine ⟨_, rfl, ?_⟩
       replace HO132 := Aside0.mk (Kd.R_below (by (with_reducible repeat (first | apply Kd.R_alloc | apply Kd.R_drewN | apply Kd.R_drew)); exact HO132.out) hb)
       replace BK124 := Aside0.mk (blk_below (g := gb124) (o := .cells #[.int .i64 a0_0, .int .i64 a0_1, .string a0_2, .int .i64 a0_3, .int .i64 a0_4] 38 (0, 0)) (by (with_reducible repeat (first | refine blk_drewN ?_ _ | refine blk_drew ?_ | refine blk_alloc ?_ _)); exact BK124.out) hb)
       replace BK125 := Aside0.mk (blk_below (g := gb125) (o := .cells #[.int .i64 a1_0, .int .i64 a1_1, .string a1_2, .int .i64 a1_3, .int .i64 a1_4] 38 (0, 0)) (by (with_reducible repeat (first | refine blk_drewN ?_ _ | refine blk_drew ?_ | refine blk_alloc ?_ _)); exact BK125.out) hb)
       replace HB := Aside0.mk (below_step (by repeat (first | (with_reducible first | exact HB.out | apply below_alloc | apply pw_below_drewN | apply below_drew1 | refine below_set ?_ GE124.out | refine below_set ?_ GE125.out) | exact HB.out)) hb)
       (try clear hb); (try clear hb2); (try clear hk); (try clear hi)
       refine hK.out _ _ ⟨(blk_cell BK124.out 0).trans rfl, (blk_cell BK124.out 1).trans rfl, (blk_cell BK124.out 2).trans rfl, (blk_cell BK124.out 3).trans rfl, (blk_cell BK124.out 4).trans rfl, (blk_cell BK125.out 0).trans rfl, (blk_cell BK125.out 1).trans rfl, (blk_cell BK125.out 2).trans rfl, (blk_cell BK125.out 3).trans rfl, (blk_cell BK125.out 4).trans rfl, HS10_, HS11_, HS12_, HS13_, HS14_, HS15_, HS16_, HS17_, HS18_, HS19_⟩ (fun hHeld => ?_)
       clear hK K
       refine norm_ (a' := ?_) ?_ ?_
       rotate_left
       ·show Act.put _ (some 30) _ = _
        simp only [qa_]
        rfl
       refine p1_ 13 31 ?_ #[Y,Y,Y,Y,Y,Y,Y,Y,Y,Y,Y,Y,Y,Y,X,X,X,X,X,X,X,X] rfl rfl (any_of HT_.out (by kernel_rfl)) (fun _ _ _ h => h) (by rfl) ?_ ?_ ?_ ?_
       rotate_left
       ·intro w'
        go_simp
        with_reducible rfl
       rotate_left
       ·simp only [qa_]
        rfl
       refine p1_ 14 32 ?_ #[Y,Y,Y,Y,Y,Y,Y,Y,Y,Y,Y,Y,Y,Y,Y,X,X,X,X,X,X,X] rfl rfl (any_of HT_.out (by kernel_rfl)) (fun _ _ _ h => h) (by rfl) ?_ ?_ ?_ ?_
       rotate_left
       ·intro w'
        go_simp
        with_reducible rfl
       rotate_left
       ·simp only [qa_]
        rfl
       refine p1_ 15 33 ?_ #[Y,Y,Y,Y,Y,Y,Y,Y,Y,Y,Y,Y,Y,Y,Y,Y,X,X,X,X,X,X] rfl rfl (any_of HT_.out (by kernel_rfl)) (fun _ _ _ h => h) (by rfl) ?_ ?_ ?_ ?_
       rotate_left
       ·intro w'
        go_simp
        with_reducible rfl
       rotate_left
       ·simp only [qa_]
        rfl
       refine p1_ 16 34 ?_ #[Y,Y,Y,Y,Y,Y,Y,Y,Y,Y,Y,Y,Y,Y,Y,Y,Y,X,X,X,X,X] rfl rfl (any_of HT_.out (by kernel_rfl)) (fun _ _ _ h => h) (by rfl) ?_ ?_ ?_ ?_
       rotate_left
       ·intro w'
        go_simp
        with_reducible rfl
       rotate_left
       ·simp only [qa_]
        rfl
       refine take_ (i := 17) (N := some 35) (v := ?_) (a' := ?_) #[Y,Y,Y,Y,Y,Y,Y,Y,Y,Y,Y,Y,Y,Y,Y,Y,Y,Y,X,X,X,X] rfl rfl (take_ofW HT_.out HW_.out (by kernel_rfl)) (fun _ _ _ h => h) (Or.inl ⟨by rfl, ?_⟩) hHeld ?_ ?_
       rotate_left
       ·rintro w' ⟨s0, s1, s2, s3, s4, s5, s6, s7, s8, s9, s10, s11, s12, s13, s14, s15, s16, s17, s18, s19⟩
        go_simp
        with_reducible rfl
       rotate_left
       ·simp only [qa_]
        rfl
       refine take_ (i := 18) (N := some 36) (v := ?_) (a' := ?_) #[Y,Y,Y,Y,Y,Y,Y,Y,Y,Y,Y,Y,Y,Y,Y,Y,Y,Y,Y,X,X,X] rfl rfl (take_ofW HT_.out HW_.out (by kernel_rfl)) (fun _ _ _ h => h) (Or.inl ⟨by rfl, ?_⟩) hHeld ?_ ?_
       rotate_left
       ·rintro w' ⟨s0, s1, s2, s3, s4, s5, s6, s7, s8, s9, s10, s11, s12, s13, s14, s15, s16, s17, s18, s19⟩
        go_simp
        with_reducible rfl
       rotate_left
       ·simp only [qa_]
        rfl
       refine one_ (i := 19) (N := some 37) #[Y,Y,Y,Y,Y,Y,Y,Y,Y,Y,Y,Y,Y,Y,Y,Y,Y,Y,Y,Y,X,X] rfl rfl (one_of HT_.out (by kernel_rfl)) (by decide) (fun K hK => ?_)
       refine goes_ Tryz.func77 (by kernel_rfl) rfl #[.agg #[.int .i64 ((rd_T38 t128 1).f0), .int .i64 ((rd_T38 t128 1).f1), .string ((rd_T38 t128 1).f2), .int .i64 ((rd_T38 t128 1).f3), .int .i64 ((rd_T38 t128 1).f4)], .agg #[.int .i64 a1_0, .int .i64 a1_1, .string a1_2, .int .i64 a1_3, .int .i64 a1_4]] (by rfl) rfl rfl (by (try simp only [List.map_toArray, List.map_cons, List.map_nil]); first | done | rfl | (simp only [List.length_drop, List.length_take]; rfl)) ?_
       with_reducible refine (lex_same.calls ((rd_T38 t128 1).f0) ((rd_T38 t128 1).f1) ((rd_T38 t128 1).f2) ((rd_T38 t128 1).f3) ((rd_T38 t128 1).f4) a1_0 a1_1 a1_2 a1_3 a1_4 t136 _ A13.out).mono ?_
       rintro e w23 ⟨rfl, hb⟩
       have HS10_ := (hb.cell (World.block_lt_of_cell? _ _ (hHeld.2.2.2.2.2.2.2.2.2.2.1))).trans (hHeld.2.2.2.2.2.2.2.2.2.2.1)
       have HS11_ := (hb.cell (World.block_lt_of_cell? _ _ (hHeld.2.2.2.2.2.2.2.2.2.2.2.1))).trans (hHeld.2.2.2.2.2.2.2.2.2.2.2.1)
       have HS12_ := (hb.cell (World.block_lt_of_cell? _ _ (hHeld.2.2.2.2.2.2.2.2.2.2.2.2.1))).trans (hHeld.2.2.2.2.2.2.2.2.2.2.2.2.1)
       have HS13_ := (hb.cell (World.block_lt_of_cell? _ _ (hHeld.2.2.2.2.2.2.2.2.2.2.2.2.2.1))).trans (hHeld.2.2.2.2.2.2.2.2.2.2.2.2.2.1)
       have HS14_ := (hb.cell (World.block_lt_of_cell? _ _ (hHeld.2.2.2.2.2.2.2.2.2.2.2.2.2.2.1))).trans (hHeld.2.2.2.2.2.2.2.2.2.2.2.2.2.2.1)
       have HS15_ := (hb.cell (World.block_lt_of_cell? _ _ (hHeld.2.2.2.2.2.2.2.2.2.2.2.2.2.2.2.1))).trans (hHeld.2.2.2.2.2.2.2.2.2.2.2.2.2.2.2.1)
       have HS16_ := (hb.cell (World.block_lt_of_cell? _ _ (hHeld.2.2.2.2.2.2.2.2.2.2.2.2.2.2.2.2.1))).trans (hHeld.2.2.2.2.2.2.2.2.2.2.2.2.2.2.2.2.1)
       have HS17_ := (hb.cell (World.block_lt_of_cell? _ _ (hHeld.2.2.2.2.2.2.2.2.2.2.2.2.2.2.2.2.2.1))).trans (hHeld.2.2.2.2.2.2.2.2.2.2.2.2.2.2.2.2.2.1)
       have HS18_ := (hb.cell (World.block_lt_of_cell? _ _ (hHeld.2.2.2.2.2.2.2.2.2.2.2.2.2.2.2.2.2.2.1))).trans (hHeld.2.2.2.2.2.2.2.2.2.2.2.2.2.2.2.2.2.2.1)
       have HS19_ := (hb.cell (World.block_lt_of_cell? _ _ (hHeld.2.2.2.2.2.2.2.2.2.2.2.2.2.2.2.2.2.2.2))).trans (hHeld.2.2.2.2.2.2.2.2.2.2.2.2.2.2.2.2.2.2.2)
       refine ⟨_, rfl, ?_⟩
       replace HO132 := Aside0.mk (Kd.R_below (by (with_reducible repeat (first | apply Kd.R_alloc | apply Kd.R_drewN | apply Kd.R_drew)); exact HO132.out) hb)
       replace BK124 := Aside0.mk (blk_below (g := gb124) (o := .cells #[.int .i64 a0_0, .int .i64 a0_1, .string a0_2, .int .i64 a0_3, .int .i64 a0_4] 38 (0, 0)) (by (with_reducible repeat (first | refine blk_drewN ?_ _ | refine blk_drew ?_ | refine blk_alloc ?_ _)); exact BK124.out) hb)
       replace BK125 := Aside0.mk (blk_below (g := gb125) (o := .cells #[.int .i64 a1_0, .int .i64 a1_1, .string a1_2, .int .i64 a1_3, .int .i64 a1_4] 38 (0, 0)) (by (with_reducible repeat (first | refine blk_drewN ?_ _ | refine blk_drew ?_ | refine blk_alloc ?_ _)); exact BK125.out) hb)
       replace HB := Aside0.mk (below_step (by repeat (first | (with_reducible first | exact HB.out | apply below_alloc | apply pw_below_drewN | apply below_drew1 | refine below_set ?_ GE124.out | refine below_set ?_ GE125.out) | exact HB.out)) hb)
       (try clear hb); (try clear hb2); (try clear hk); (try clear hi)
       refine hK.out _ _ ⟨(blk_cell BK124.out 0).trans rfl, (blk_cell BK124.out 1).trans rfl, (blk_cell BK124.out 2).trans rfl, (blk_cell BK124.out 3).trans rfl, (blk_cell BK124.out 4).trans rfl, (blk_cell BK125.out 0).trans rfl, (blk_cell BK125.out 1).trans rfl, (blk_cell BK125.out 2).trans rfl, (blk_cell BK125.out 3).trans rfl, (blk_cell BK125.out 4).trans rfl, HS10_, HS11_, HS12_, HS13_, HS14_, HS15_, HS16_, HS17_, HS18_, HS19_⟩ (fun hHeld => ?_)
       clear hK K
       refine norm_ (a' := ?_) ?_ ?_
       rotate_left
       ·show Act.put _ (some 37) _ = _
        simp only [qa_]
        rfl
       refine p1_ 20 38 ?_ #[Y,Y,Y,Y,Y,Y,Y,Y,Y,Y,Y,Y,Y,Y,Y,Y,Y,Y,Y,Y,Y,X] rfl rfl (any_of HT_.out (by kernel_rfl)) (fun _ _ _ h => h) (by rfl) ?_ ?_ ?_ ?_
       rotate_left
       ·intro w'
        go_simp
        with_reducible rfl
       rotate_left
       ·simp only [qa_]
        rfl
       refine p1_ 21 4 ?_ #[Y,Y,Y,Y,Y,Y,Y,Y,Y,Y,Y,Y,Y,Y,Y,Y,Y,Y,Y,Y,Y,Y] rfl rfl (any_of HT_.out (by kernel_rfl)) (fun _ _ _ h => h) (by rfl) ?_ ?_ ?_ ?_
       rotate_left
       ·intro w'
        go_simp
        with_reducible rfl
       rotate_left
       ·simp only [qa_]
        rfl
       refine done_ (done_of HT_.out (by kernel_rfl)) ?_
       try go_wp2
       go_ret
       exact ⟨by first | rfl | (simp [errW_none, errW_some] <;> rfl) | (simp [*, errW_none, errW_some] <;> rfl), by repeat (first | (with_reducible first | exact HB.out | apply below_alloc | apply pw_below_drewN | apply below_drew1 | refine below_set ?_ GE124.out | refine below_set ?_ GE125.out) | exact HB.out)⟩
      ·rw [if_neg c12] at H
       exact absurd H (by simp)
     ·replace c11 := Bool.eq_false_iff.mpr c11
      subst c11
      have H1 : (some false) = some r := by rw [if_neg (show ¬ (false = true) by decide)] at H; exact H
      clear H
      have H := H1
      clear H1
      obtain rfl := Option.some.inj H
      obtain ⟨Ao31, co31, eo31⟩ := Kd.R_slice HO132.out
      (first | subst eo31 | (injection eo31 with f1_ f2_ f3_; have f4_ := f1_.symm; have f5_ := f3_.symm; clear f1_ f2_ f3_; subst f4_; subst f5_))
      have p133 : 0 ≤ (0 : Int) := (by omega)
      have q133 : 0 < (t128.length : Int) := of_decide_eq_true (by first | (with_reducible assumption) | assumption)
      obtain ⟨ad133, e133, hx133_0, hx133_1, hx133_2, hx133_3, hx133_4⟩ := at_T38 (Kd.R_reads' HO132.out).2.2 0 p133 q133
      cases e133
      have qi133 : (0 < t128.length) = True := eq_true (by omega)
      (try rw [show ((0 : Int)).toNat = 0 from rfl] at hx133_0)
      (try rw [show 0 * 5 = 0 from rfl] at hx133_0)
      (try rw [Addr.add_zero'] at hx133_0)
      (try rw [show ((0 : Int)).toNat = 0 from rfl] at hx133_1)
      (try rw [show 0 * 5 = 0 from rfl] at hx133_1)
      (try rw [Addr.add_zero'] at hx133_1)
      (try rw [show ((0 : Int)).toNat = 0 from rfl] at hx133_2)
      (try rw [show 0 * 5 = 0 from rfl] at hx133_2)
      (try rw [Addr.add_zero'] at hx133_2)
      (try rw [show ((0 : Int)).toNat = 0 from rfl] at hx133_3)
      (try rw [show 0 * 5 = 0 from rfl] at hx133_3)
      (try rw [Addr.add_zero'] at hx133_3)
      (try rw [show ((0 : Int)).toNat = 0 from rfl] at hx133_4)
      (try rw [show 0 * 5 = 0 from rfl] at hx133_4)
      (try rw [Addr.add_zero'] at hx133_4)
      replace p133 := eq_true p133
      replace q133 := eq_true q133
      refine start_ (n := 22) (S := fun w' => w'.cell? ⟨gb124, 0, none⟩ = some (.int .i64 a0_0) ∧ w'.cell? ⟨gb124, 1, none⟩ = some (.int .i64 a0_1) ∧ w'.cell? ⟨gb124, 2, none⟩ = some (.string a0_2) ∧ w'.cell? ⟨gb124, 3, none⟩ = some (.int .i64 a0_3) ∧ w'.cell? ⟨gb124, 4, none⟩ = some (.int .i64 a0_4) ∧ w'.cell? ad133 = some (.int .i64 ((rd_T38 t128 0).f0)) ∧ w'.cell? ⟨ad133.block, ad133.off + 1, none⟩ = some (.int .i64 ((rd_T38 t128 0).f1)) ∧ w'.cell? ⟨ad133.block, ad133.off + 2, none⟩ = some (.string ((rd_T38 t128 0).f2)) ∧ w'.cell? ⟨ad133.block, ad133.off + 3, none⟩ = some (.int .i64 ((rd_T38 t128 0).f3)) ∧ w'.cell? ⟨ad133.block, ad133.off + 4, none⟩ = some (.int .i64 ((rd_T38 t128 0).f4))) (ds := []) #[X,X,X,X,X,X,X,X,X,X,X,X,X,X,X,X,X,X,X,X,X,X] (by kernel_rfl) rfl rfl ⟨(blk_cell BK124.out 0).trans rfl, (blk_cell BK124.out 1).trans rfl, (blk_cell BK124.out 2).trans rfl, (blk_cell BK124.out 3).trans rfl, (blk_cell BK124.out 4).trans rfl, hx133_0, hx133_1, hx133_2, hx133_3, hx133_4⟩ (fun hHeld => ?_); refine with_tabW lex_apart.tab2 lex_apart.bits2 (fun HT_ HW_ => ?_)
      generalize w19.drew = w30 at HO132 BK124 BK125 HB hx133_0 hx133_1 hx133_2 hx133_3 hx133_4 hHeld ⊢
      refine p1_ 0 18 ?_ #[Y,X,X,X,X,X,X,X,X,X,X,X,X,X,X,X,X,X,X,X,X,X] rfl rfl (any_of HT_.out (by kernel_rfl)) (fun _ _ _ h => h) (by rfl) ?_ ?_ ?_ ?_
      rotate_left
      ·intro w'
       go_simp
       with_reducible rfl
      rotate_left
      ·simp only [qa_]
       rfl
      refine p1_ 1 19 ?_ #[Y,Y,X,X,X,X,X,X,X,X,X,X,X,X,X,X,X,X,X,X,X,X] rfl rfl (any_of HT_.out (by kernel_rfl)) (fun _ _ _ h => h) (by rfl) ?_ ?_ ?_ ?_
      rotate_left
      ·intro w'
       go_simp
       with_reducible rfl
      rotate_left
      ·simp only [qa_]
       rfl
      refine p1_ 2 20 ?_ #[Y,Y,Y,X,X,X,X,X,X,X,X,X,X,X,X,X,X,X,X,X,X,X] rfl rfl (any_of HT_.out (by kernel_rfl)) (fun _ _ _ h => h) (by rfl) ?_ ?_ ?_ ?_
      rotate_left
      ·intro w'
       go_simp
       with_reducible rfl
      rotate_left
      ·simp only [qa_]
       rfl
      refine p1_ 3 21 ?_ #[Y,Y,Y,Y,X,X,X,X,X,X,X,X,X,X,X,X,X,X,X,X,X,X] rfl rfl (any_of HT_.out (by kernel_rfl)) (fun _ _ _ h => h) (by rfl) ?_ ?_ ?_ ?_
      rotate_left
      ·intro w'
       go_simp
       with_reducible rfl
      rotate_left
      ·simp only [qa_]
       rfl
      refine p1_ 4 22 ?_ #[Y,Y,Y,Y,Y,X,X,X,X,X,X,X,X,X,X,X,X,X,X,X,X,X] rfl rfl (any_of HT_.out (by kernel_rfl)) (fun _ _ _ h => h) (by rfl) ?_ ?_ ?_ ?_
      rotate_left
      ·intro w'
       go_simp
       with_reducible rfl
      rotate_left
      ·simp only [qa_]
       rfl
      refine p1_ 5 23 ?_ #[Y,Y,Y,Y,Y,Y,X,X,X,X,X,X,X,X,X,X,X,X,X,X,X,X] rfl rfl (any_of HT_.out (by kernel_rfl)) (fun _ _ _ h => h) (by rfl) ?_ ?_ ?_ ?_
      rotate_left
      ·intro w'
       go_simp
       with_reducible rfl
      rotate_left
      ·simp only [qa_]
       rfl
      refine p1_ 6 24 ?_ #[Y,Y,Y,Y,Y,Y,Y,X,X,X,X,X,X,X,X,X,X,X,X,X,X,X] rfl rfl (any_of HT_.out (by kernel_rfl)) (fun _ _ _ h => h) (by rfl) ?_ ?_ ?_ ?_
      rotate_left
      ·intro w'
       go_simp
       with_reducible rfl
      rotate_left
      ·simp only [qa_]
       rfl
      refine p1_ 7 25 ?_ #[Y,Y,Y,Y,Y,Y,Y,Y,X,X,X,X,X,X,X,X,X,X,X,X,X,X] rfl rfl (any_of HT_.out (by kernel_rfl)) (fun _ _ _ h => h) (by rfl) ?_ ?_ ?_ ?_
      rotate_left
      ·intro w'
       go_simp
       with_reducible rfl
      rotate_left
      ·simp only [qa_]
       rfl
      refine p1_ 8 26 ?_ #[Y,Y,Y,Y,Y,Y,Y,Y,Y,X,X,X,X,X,X,X,X,X,X,X,X,X] rfl rfl (any_of HT_.out (by kernel_rfl)) (fun _ _ _ h => h) (by rfl) ?_ ?_ ?_ ?_
      rotate_left
      ·intro w'
       go_simp
       with_reducible rfl
      rotate_left
      ·simp only [qa_]
       rfl
      refine p1_ 9 27 ?_ #[Y,Y,Y,Y,Y,Y,Y,Y,Y,Y,X,X,X,X,X,X,X,X,X,X,X,X] rfl rfl (any_of HT_.out (by kernel_rfl)) (fun _ _ _ h => h) (by rfl) ?_ ?_ ?_ ?_
      rotate_left
      ·intro w'
       go_simp
       with_reducible rfl
      rotate_left
      ·simp only [qa_]
       rfl
      refine take_ (i := 10) (N := some 28) (v := ?_) (a' := ?_) #[Y,Y,Y,Y,Y,Y,Y,Y,Y,Y,Y,X,X,X,X,X,X,X,X,X,X,X] rfl rfl (take_ofW HT_.out HW_.out (by kernel_rfl)) (fun _ _ _ h => h) (Or.inl ⟨by rfl, ?_⟩) hHeld ?_ ?_
      rotate_left
      ·rintro w' ⟨s0, s1, s2, s3, s4, s5, s6, s7, s8, s9⟩
       go_simp
       with_reducible rfl
      rotate_left
      ·simp only [qa_]
       rfl
      refine take_ (i := 11) (N := some 29) (v := ?_) (a' := ?_) #[Y,Y,Y,Y,Y,Y,Y,Y,Y,Y,Y,Y,X,X,X,X,X,X,X,X,X,X] rfl rfl (take_ofW HT_.out HW_.out (by kernel_rfl)) (fun _ _ _ h => h) (Or.inl ⟨by rfl, ?_⟩) hHeld ?_ ?_
      rotate_left
      ·rintro w' ⟨s0, s1, s2, s3, s4, s5, s6, s7, s8, s9⟩
       go_simp
       with_reducible rfl
      rotate_left
      ·simp only [qa_]
       rfl
      refine one_ (i := 12) (N := some 30) #[Y,Y,Y,Y,Y,Y,Y,Y,Y,Y,Y,Y,Y,X,X,X,X,X,X,X,X,X] rfl rfl (one_of HT_.out (by kernel_rfl)) (by decide) (fun K hK => ?_)
      refine goes_ Tryz.func77 (by kernel_rfl) rfl #[.agg #[.int .i64 ((rd_T38 t128 0).f0), .int .i64 ((rd_T38 t128 0).f1), .string ((rd_T38 t128 0).f2), .int .i64 ((rd_T38 t128 0).f3), .int .i64 ((rd_T38 t128 0).f4)], .agg #[.int .i64 a0_0, .int .i64 a0_1, .string a0_2, .int .i64 a0_3, .int .i64 a0_4]] (by rfl) rfl rfl (by (try simp only [List.map_toArray, List.map_cons, List.map_nil]); first | done | rfl | (simp only [List.length_drop, List.length_take]; rfl)) ?_
      with_reducible refine (lex_same.calls ((rd_T38 t128 0).f0) ((rd_T38 t128 0).f1) ((rd_T38 t128 0).f2) ((rd_T38 t128 0).f3) ((rd_T38 t128 0).f4) a0_0 a0_1 a0_2 a0_3 a0_4 false _ A10.out).mono ?_
      rintro e w32 ⟨rfl, hb⟩
      have HS5_ := (hb.cell (World.block_lt_of_cell? _ _ (hHeld.2.2.2.2.2.1))).trans (hHeld.2.2.2.2.2.1)
      have HS6_ := (hb.cell (World.block_lt_of_cell? _ _ (hHeld.2.2.2.2.2.2.1))).trans (hHeld.2.2.2.2.2.2.1)
      have HS7_ := (hb.cell (World.block_lt_of_cell? _ _ (hHeld.2.2.2.2.2.2.2.1))).trans (hHeld.2.2.2.2.2.2.2.1)
      have HS8_ := (hb.cell (World.block_lt_of_cell? _ _ (hHeld.2.2.2.2.2.2.2.2.1))).trans (hHeld.2.2.2.2.2.2.2.2.1)
      have HS9_ := (hb.cell (World.block_lt_of_cell? _ _ (hHeld.2.2.2.2.2.2.2.2.2))).trans (hHeld.2.2.2.2.2.2.2.2.2)
      refine ⟨_, rfl, ?_⟩
      replace HO132 := Aside0.mk (Kd.R_below (by (with_reducible repeat (first | apply Kd.R_alloc | apply Kd.R_drewN | apply Kd.R_drew)); exact HO132.out) hb)
      replace BK124 := Aside0.mk (blk_below (g := gb124) (o := .cells #[.int .i64 a0_0, .int .i64 a0_1, .string a0_2, .int .i64 a0_3, .int .i64 a0_4] 38 (0, 0)) (by (with_reducible repeat (first | refine blk_drewN ?_ _ | refine blk_drew ?_ | refine blk_alloc ?_ _)); exact BK124.out) hb)
      replace BK125 := Aside0.mk (blk_below (g := gb125) (o := .cells #[.int .i64 a1_0, .int .i64 a1_1, .string a1_2, .int .i64 a1_3, .int .i64 a1_4] 38 (0, 0)) (by (with_reducible repeat (first | refine blk_drewN ?_ _ | refine blk_drew ?_ | refine blk_alloc ?_ _)); exact BK125.out) hb)
      replace HB := Aside0.mk (below_step (by repeat (first | (with_reducible first | exact HB.out | apply below_alloc | apply pw_below_drewN | apply below_drew1 | refine below_set ?_ GE124.out | refine below_set ?_ GE125.out) | exact HB.out)) hb)
      (try clear hb); (try clear hb2); (try clear hk); (try clear hi)
      refine hK.out _ _ ⟨(blk_cell BK124.out 0).trans rfl, (blk_cell BK124.out 1).trans rfl, (blk_cell BK124.out 2).trans rfl, (blk_cell BK124.out 3).trans rfl, (blk_cell BK124.out 4).trans rfl, HS5_, HS6_, HS7_, HS8_, HS9_⟩ (fun hHeld => ?_)
      clear hK K
      refine norm_ (a' := ?_) ?_ ?_
      rotate_left
      ·show Act.put _ (some 30) _ = _
       simp only [qa_]
       rfl
      refine p1_ 13 31 ?_ #[Y,Y,Y,Y,Y,Y,Y,Y,Y,Y,Y,Y,Y,Y,X,X,X,X,X,X,X,X] rfl rfl (any_of HT_.out (by kernel_rfl)) (fun _ _ _ h => h) (by rfl) ?_ ?_ ?_ ?_
      rotate_left
      ·intro w'
       go_simp
       with_reducible rfl
      rotate_left
      ·simp only [qa_]
       rfl
      refine p1_ 14 32 ?_ #[Y,Y,Y,Y,Y,Y,Y,Y,Y,Y,Y,Y,Y,Y,Y,X,X,X,X,X,X,X] rfl rfl (any_of HT_.out (by kernel_rfl)) (fun _ _ _ h => h) (by rfl) ?_ ?_ ?_ ?_
      rotate_left
      ·intro w'
       go_simp
       with_reducible rfl
      rotate_left
      ·simp only [qa_]
       rfl
      refine p2_ 15 33 ?_ #[Y,Y,Y,Y,Y,Y,Y,Y,Y,Y,Y,Y,Y,Y,Y,Y,X,X,X,X,X,X] rfl rfl (any_of HT_.out (by kernel_rfl)) (fun _ _ _ h => h) (by rfl) ?_ ?_
      rotate_left
      ·simp only [qa_]
       rfl
      refine p2_ 16 34 ?_ #[Y,Y,Y,Y,Y,Y,Y,Y,Y,Y,Y,Y,Y,Y,Y,Y,Y,X,X,X,X,X] rfl rfl (any_of HT_.out (by kernel_rfl)) (fun _ _ _ h => h) (by rfl) ?_ ?_
      rotate_left
      ·simp only [qa_]
       rfl
      refine p2_ 17 35 ?_ #[Y,Y,Y,Y,Y,Y,Y,Y,Y,Y,Y,Y,Y,Y,Y,Y,Y,Y,X,X,X,X] rfl rfl (any_of HT_.out (by kernel_rfl)) (fun _ _ _ h => h) (by rfl) ?_ ?_
      rotate_left
      ·simp only [qa_]
       rfl
      refine p2_ 18 36 ?_ #[Y,Y,Y,Y,Y,Y,Y,Y,Y,Y,Y,Y,Y,Y,Y,Y,Y,Y,Y,X,X,X] rfl rfl (any_of HT_.out (by kernel_rfl)) (fun _ _ _ h => h) (by rfl) ?_ ?_
      rotate_left
      ·simp only [qa_]
       rfl
      refine p2_ 19 37 ?_ #[Y,Y,Y,Y,Y,Y,Y,Y,Y,Y,Y,Y,Y,Y,Y,Y,Y,Y,Y,Y,X,X] rfl rfl (any_of HT_.out (by kernel_rfl)) (fun _ _ _ h => h) (by rfl) ?_ ?_
      rotate_left
      ·simp only [qa_]
       rfl
      refine p1_ 20 38 ?_ #[Y,Y,Y,Y,Y,Y,Y,Y,Y,Y,Y,Y,Y,Y,Y,Y,Y,Y,Y,Y,Y,X] rfl rfl (any_of HT_.out (by kernel_rfl)) (fun _ _ _ h => h) (by rfl) ?_ ?_ ?_ ?_
      rotate_left
      ·intro w'
       go_simp
       with_reducible rfl
      rotate_left
      ·simp only [qa_]
       rfl
      refine p1_ 21 4 ?_ #[Y,Y,Y,Y,Y,Y,Y,Y,Y,Y,Y,Y,Y,Y,Y,Y,Y,Y,Y,Y,Y,Y] rfl rfl (any_of HT_.out (by kernel_rfl)) (fun _ _ _ h => h) (by rfl) ?_ ?_ ?_ ?_
      rotate_left
      ·intro w'
       go_simp
       with_reducible rfl
      rotate_left
      ·simp only [qa_]
       rfl
      refine done_ (done_of HT_.out (by kernel_rfl)) ?_
      try go_wp2
      go_ret
      exact ⟨by first | rfl | (simp [errW_none, errW_some] <;> rfl) | (simp [*, errW_none, errW_some] <;> rfl), by repeat (first | (with_reducible first | exact HB.out | apply below_alloc | apply pw_below_drewN | apply below_drew1 | refine below_set ?_ GE124.out | refine below_set ?_ GE125.out) | exact HB.out)⟩
    ·rw [if_neg c9] at H
     exact absurd H (by simp)
   ·rw [if_neg c8] at H
    have c8b0 : ((t128.length : Int) == 2) = false := beq_eq_false_iff_ne.mpr c8
    have c8b1 : ((t128.length : Int) != 2) = true := bne_iff_ne.mpr c8
    obtain rfl := Option.some.inj H
    obtain ⟨Ao40, co40, eo40⟩ := Kd.R_slice HO132.out
    (first | subst eo40 | (injection eo40 with f1_ f2_ f3_; have f4_ := f1_.symm; have f5_ := f3_.symm; clear f1_ f2_ f3_; subst f4_; subst f5_))
    refine start_ (n := 22) (S := fun w' => True) (ds := []) #[X,X,X,X,X,X,X,X,X,X,X,X,X,X,X,X,X,X,X,X,X,X] (by kernel_rfl) rfl rfl trivial (fun hHeld => ?_); refine with_tabW lex_apart.tab2 lex_apart.bits2 (fun HT_ HW_ => ?_)
    generalize w19.drew = w39 at HO132 BK124 BK125 HB hHeld ⊢
    refine p1_ 0 18 ?_ #[Y,X,X,X,X,X,X,X,X,X,X,X,X,X,X,X,X,X,X,X,X,X] rfl rfl (any_of HT_.out (by kernel_rfl)) (fun _ _ _ h => h) (by rfl) ?_ ?_ ?_ ?_
    rotate_left
    ·intro w'
     go_simp
     with_reducible rfl
    rotate_left
    ·simp only [qa_]
     rfl
    refine p1_ 1 19 ?_ #[Y,Y,X,X,X,X,X,X,X,X,X,X,X,X,X,X,X,X,X,X,X,X] rfl rfl (any_of HT_.out (by kernel_rfl)) (fun _ _ _ h => h) (by rfl) ?_ ?_ ?_ ?_
    rotate_left
    ·intro w'
     go_simp
     with_reducible rfl
    rotate_left
    ·simp only [qa_]
     rfl
    refine p1_ 2 20 ?_ #[Y,Y,Y,X,X,X,X,X,X,X,X,X,X,X,X,X,X,X,X,X,X,X] rfl rfl (any_of HT_.out (by kernel_rfl)) (fun _ _ _ h => h) (by rfl) ?_ ?_ ?_ ?_
    rotate_left
    ·intro w'
     go_simp
     with_reducible rfl
    rotate_left
    ·simp only [qa_]
     rfl
    refine p1_ 3 21 ?_ #[Y,Y,Y,Y,X,X,X,X,X,X,X,X,X,X,X,X,X,X,X,X,X,X] rfl rfl (any_of HT_.out (by kernel_rfl)) (fun _ _ _ h => h) (by rfl) ?_ ?_ ?_ ?_
    rotate_left
    ·intro w'
     go_simp
     with_reducible rfl
    rotate_left
    ·simp only [qa_]
     rfl
    refine p1_ 4 22 ?_ #[Y,Y,Y,Y,Y,X,X,X,X,X,X,X,X,X,X,X,X,X,X,X,X,X] rfl rfl (any_of HT_.out (by kernel_rfl)) (fun _ _ _ h => h) (by rfl) ?_ ?_ ?_ ?_
    rotate_left
    ·intro w'
     go_simp
     with_reducible rfl
    rotate_left
    ·simp only [qa_]
     rfl
    refine p1_ 5 23 ?_ #[Y,Y,Y,Y,Y,Y,X,X,X,X,X,X,X,X,X,X,X,X,X,X,X,X] rfl rfl (any_of HT_.out (by kernel_rfl)) (fun _ _ _ h => h) (by rfl) ?_ ?_ ?_ ?_
    rotate_left
    ·intro w'
     go_simp
     with_reducible rfl
    rotate_left
    ·simp only [qa_]
     rfl
    refine p1_ 6 24 ?_ #[Y,Y,Y,Y,Y,Y,Y,X,X,X,X,X,X,X,X,X,X,X,X,X,X,X] rfl rfl (any_of HT_.out (by kernel_rfl)) (fun _ _ _ h => h) (by rfl) ?_ ?_ ?_ ?_
    rotate_left
    ·intro w'
     go_simp
     with_reducible rfl
    rotate_left
    ·simp only [qa_]
     rfl
    refine p1_ 7 25 ?_ #[Y,Y,Y,Y,Y,Y,Y,Y,X,X,X,X,X,X,X,X,X,X,X,X,X,X] rfl rfl (any_of HT_.out (by kernel_rfl)) (fun _ _ _ h => h) (by rfl) ?_ ?_ ?_ ?_
    rotate_left
    ·intro w'
     go_simp
     with_reducible rfl
    rotate_left
    ·simp only [qa_]
     rfl
    refine p2_ 8 26 ?_ #[Y,Y,Y,Y,Y,Y,Y,Y,Y,X,X,X,X,X,X,X,X,X,X,X,X,X] rfl rfl (any_of HT_.out (by kernel_rfl)) (fun _ _ _ h => h) (by rfl) ?_ ?_
    rotate_left
    ·simp only [qa_]
     rfl
    refine p2_ 9 27 ?_ #[Y,Y,Y,Y,Y,Y,Y,Y,Y,Y,X,X,X,X,X,X,X,X,X,X,X,X] rfl rfl (any_of HT_.out (by kernel_rfl)) (fun _ _ _ h => h) (by rfl) ?_ ?_
    rotate_left
    ·simp only [qa_]
     rfl
    refine p2_ 10 28 ?_ #[Y,Y,Y,Y,Y,Y,Y,Y,Y,Y,Y,X,X,X,X,X,X,X,X,X,X,X] rfl rfl (any_of HT_.out (by kernel_rfl)) (fun _ _ _ h => h) (by rfl) ?_ ?_
    rotate_left
    ·simp only [qa_]
     rfl
    refine p2_ 11 29 ?_ #[Y,Y,Y,Y,Y,Y,Y,Y,Y,Y,Y,Y,X,X,X,X,X,X,X,X,X,X] rfl rfl (any_of HT_.out (by kernel_rfl)) (fun _ _ _ h => h) (by rfl) ?_ ?_
    rotate_left
    ·simp only [qa_]
     rfl
    refine p2_ 12 30 ?_ #[Y,Y,Y,Y,Y,Y,Y,Y,Y,Y,Y,Y,Y,X,X,X,X,X,X,X,X,X] rfl rfl (any_of HT_.out (by kernel_rfl)) (fun _ _ _ h => h) (by rfl) ?_ ?_
    rotate_left
    ·simp only [qa_]
     rfl
    refine p1_ 13 31 ?_ #[Y,Y,Y,Y,Y,Y,Y,Y,Y,Y,Y,Y,Y,Y,X,X,X,X,X,X,X,X] rfl rfl (any_of HT_.out (by kernel_rfl)) (fun _ _ _ h => h) (by rfl) ?_ ?_ ?_ ?_
    rotate_left
    ·intro w'
     go_simp
     with_reducible rfl
    rotate_left
    ·simp only [qa_]
     rfl
    refine p1_ 14 32 ?_ #[Y,Y,Y,Y,Y,Y,Y,Y,Y,Y,Y,Y,Y,Y,Y,X,X,X,X,X,X,X] rfl rfl (any_of HT_.out (by kernel_rfl)) (fun _ _ _ h => h) (by rfl) ?_ ?_ ?_ ?_
    rotate_left
    ·intro w'
     go_simp
     with_reducible rfl
    rotate_left
    ·simp only [qa_]
     rfl
    refine p2_ 15 33 ?_ #[Y,Y,Y,Y,Y,Y,Y,Y,Y,Y,Y,Y,Y,Y,Y,Y,X,X,X,X,X,X] rfl rfl (any_of HT_.out (by kernel_rfl)) (fun _ _ _ h => h) (by rfl) ?_ ?_
    rotate_left
    ·simp only [qa_]
     rfl
    refine p2_ 16 34 ?_ #[Y,Y,Y,Y,Y,Y,Y,Y,Y,Y,Y,Y,Y,Y,Y,Y,Y,X,X,X,X,X] rfl rfl (any_of HT_.out (by kernel_rfl)) (fun _ _ _ h => h) (by rfl) ?_ ?_
    rotate_left
    ·simp only [qa_]
     rfl
    refine p2_ 17 35 ?_ #[Y,Y,Y,Y,Y,Y,Y,Y,Y,Y,Y,Y,Y,Y,Y,Y,Y,Y,X,X,X,X] rfl rfl (any_of HT_.out (by kernel_rfl)) (fun _ _ _ h => h) (by rfl) ?_ ?_
    rotate_left
    ·simp only [qa_]
     rfl
    refine p2_ 18 36 ?_ #[Y,Y,Y,Y,Y,Y,Y,Y,Y,Y,Y,Y,Y,Y,Y,Y,Y,Y,Y,X,X,X] rfl rfl (any_of HT_.out (by kernel_rfl)) (fun _ _ _ h => h) (by rfl) ?_ ?_
    rotate_left
    ·simp only [qa_]
     rfl
    refine p2_ 19 37 ?_ #[Y,Y,Y,Y,Y,Y,Y,Y,Y,Y,Y,Y,Y,Y,Y,Y,Y,Y,Y,Y,X,X] rfl rfl (any_of HT_.out (by kernel_rfl)) (fun _ _ _ h => h) (by rfl) ?_ ?_
    rotate_left
    ·simp only [qa_]
     rfl
    refine p1_ 20 38 ?_ #[Y,Y,Y,Y,Y,Y,Y,Y,Y,Y,Y,Y,Y,Y,Y,Y,Y,Y,Y,Y,Y,X] rfl rfl (any_of HT_.out (by kernel_rfl)) (fun _ _ _ h => h) (by rfl) ?_ ?_ ?_ ?_
    rotate_left
    ·intro w'
     go_simp
     with_reducible rfl
    rotate_left
    ·simp only [qa_]
     rfl
    refine p1_ 21 4 ?_ #[Y,Y,Y,Y,Y,Y,Y,Y,Y,Y,Y,Y,Y,Y,Y,Y,Y,Y,Y,Y,Y,Y] rfl rfl (any_of HT_.out (by kernel_rfl)) (fun _ _ _ h => h) (by rfl) ?_ ?_ ?_ ?_
    rotate_left
    ·intro w'
     go_simp
     with_reducible rfl
    rotate_left
    ·simp only [qa_]
     rfl
    refine done_ (done_of HT_.out (by kernel_rfl)) ?_
    try go_wp2
    go_ret
    exact ⟨by first | rfl | (simp [errW_none, errW_some] <;> rfl) | (simp [*, errW_none, errW_some] <;> rfl), by repeat (first | (with_reducible first | exact HB.out | apply below_alloc | apply pw_below_drewN | apply below_drew1 | refine below_set ?_ GE124.out | refine below_set ?_ GE125.out) | exact HB.out)⟩
  ·rw [if_neg c7] at H
   have c7b0 : (t130 == 0) = false := beq_eq_false_iff_ne.mpr c7
   have c7b1 : (t130 != 0) = true := bne_iff_ne.mpr c7
   obtain rfl := Option.some.inj H
   refine start_ (n := 22) (S := fun w' => True) (ds := []) #[X,X,X,X,X,X,X,X,X,X,X,X,X,X,X,X,X,X,X,X,X,X] (by kernel_rfl) rfl rfl trivial (fun hHeld => ?_); refine with_tabW lex_apart.tab2 lex_apart.bits2 (fun HT_ HW_ => ?_)
   generalize w19.drew = w47 at HO132 BK124 BK125 HB hHeld ⊢
   refine p1_ 0 18 ?_ #[Y,X,X,X,X,X,X,X,X,X,X,X,X,X,X,X,X,X,X,X,X,X] rfl rfl (any_of HT_.out (by kernel_rfl)) (fun _ _ _ h => h) (by rfl) ?_ ?_ ?_ ?_
   rotate_left
   ·intro w'
    go_simp
    with_reducible rfl
   rotate_left
   ·simp only [qa_]
    rfl
   refine p1_ 1 19 ?_ #[Y,Y,X,X,X,X,X,X,X,X,X,X,X,X,X,X,X,X,X,X,X,X] rfl rfl (any_of HT_.out (by kernel_rfl)) (fun _ _ _ h => h) (by rfl) ?_ ?_ ?_ ?_
   rotate_left
   ·intro w'
    go_simp
    with_reducible rfl
   rotate_left
   ·simp only [qa_]
    rfl
   refine p1_ 2 20 ?_ #[Y,Y,Y,X,X,X,X,X,X,X,X,X,X,X,X,X,X,X,X,X,X,X] rfl rfl (any_of HT_.out (by kernel_rfl)) (fun _ _ _ h => h) (by rfl) ?_ ?_ ?_ ?_
   rotate_left
   ·intro w'
    go_simp
    with_reducible rfl
   rotate_left
   ·simp only [qa_]
    rfl
   refine p2_ 3 21 ?_ #[Y,Y,Y,Y,X,X,X,X,X,X,X,X,X,X,X,X,X,X,X,X,X,X] rfl rfl (any_of HT_.out (by kernel_rfl)) (fun _ _ _ h => h) (by rfl) ?_ ?_
   rotate_left
   ·simp only [qa_]
    rfl
   refine p2_ 4 22 ?_ #[Y,Y,Y,Y,Y,X,X,X,X,X,X,X,X,X,X,X,X,X,X,X,X,X] rfl rfl (any_of HT_.out (by kernel_rfl)) (fun _ _ _ h => h) (by rfl) ?_ ?_
   rotate_left
   ·simp only [qa_]
    rfl
   refine p2_ 5 23 ?_ #[Y,Y,Y,Y,Y,Y,X,X,X,X,X,X,X,X,X,X,X,X,X,X,X,X] rfl rfl (any_of HT_.out (by kernel_rfl)) (fun _ _ _ h => h) (by rfl) ?_ ?_
   rotate_left
   ·simp only [qa_]
    rfl
   refine p1_ 6 24 ?_ #[Y,Y,Y,Y,Y,Y,Y,X,X,X,X,X,X,X,X,X,X,X,X,X,X,X] rfl rfl (any_of HT_.out (by kernel_rfl)) (fun _ _ _ h => h) (by rfl) ?_ ?_ ?_ ?_
   rotate_left
   ·intro w'
    go_simp
    with_reducible rfl
   rotate_left
   ·simp only [qa_]
    rfl
   refine p1_ 7 25 ?_ #[Y,Y,Y,Y,Y,Y,Y,Y,X,X,X,X,X,X,X,X,X,X,X,X,X,X] rfl rfl (any_of HT_.out (by kernel_rfl)) (fun _ _ _ h => h) (by rfl) ?_ ?_ ?_ ?_
   rotate_left
   ·intro w'
    go_simp
    with_reducible rfl
   rotate_left
   ·simp only [qa_]
    rfl
   refine p2_ 8 26 ?_ #[Y,Y,Y,Y,Y,Y,Y,Y,Y,X,X,X,X,X,X,X,X,X,X,X,X,X] rfl rfl (any_of HT_.out (by kernel_rfl)) (fun _ _ _ h => h) (by rfl) ?_ ?_
   rotate_left
   ·simp only [qa_]
    rfl
   refine p2_ 9 27 ?_ #[Y,Y,Y,Y,Y,Y,Y,Y,Y,Y,X,X,X,X,X,X,X,X,X,X,X,X] rfl rfl (any_of HT_.out (by kernel_rfl)) (fun _ _ _ h => h) (by rfl) ?_ ?_
   rotate_left
   ·simp only [qa_]
    rfl
   refine p2_ 10 28 ?_ #[Y,Y,Y,Y,Y,Y,Y,Y,Y,Y,Y,X,X,X,X,X,X,X,X,X,X,X] rfl rfl (any_of HT_.out (by kernel_rfl)) (fun _ _ _ h => h) (by rfl) ?_ ?_
   rotate_left
   ·simp only [qa_]
    rfl
   refine p2_ 11 29 ?_ #[Y,Y,Y,Y,Y,Y,Y,Y,Y,Y,Y,Y,X,X,X,X,X,X,X,X,X,X] rfl rfl (any_of HT_.out (by kernel_rfl)) (fun _ _ _ h => h) (by rfl) ?_ ?_
   rotate_left
   ·simp only [qa_]
    rfl
   refine p2_ 12 30 ?_ #[Y,Y,Y,Y,Y,Y,Y,Y,Y,Y,Y,Y,Y,X,X,X,X,X,X,X,X,X] rfl rfl (any_of HT_.out (by kernel_rfl)) (fun _ _ _ h => h) (by rfl) ?_ ?_
   rotate_left
   ·simp only [qa_]
    rfl
   refine p1_ 13 31 ?_ #[Y,Y,Y,Y,Y,Y,Y,Y,Y,Y,Y,Y,Y,Y,X,X,X,X,X,X,X,X] rfl rfl (any_of HT_.out (by kernel_rfl)) (fun _ _ _ h => h) (by rfl) ?_ ?_ ?_ ?_
   rotate_left
   ·intro w'
    go_simp
    with_reducible rfl
   rotate_left
   ·simp only [qa_]
    rfl
   refine p1_ 14 32 ?_ #[Y,Y,Y,Y,Y,Y,Y,Y,Y,Y,Y,Y,Y,Y,Y,X,X,X,X,X,X,X] rfl rfl (any_of HT_.out (by kernel_rfl)) (fun _ _ _ h => h) (by rfl) ?_ ?_ ?_ ?_
   rotate_left
   ·intro w'
    go_simp
    with_reducible rfl
   rotate_left
   ·simp only [qa_]
    rfl
   refine p2_ 15 33 ?_ #[Y,Y,Y,Y,Y,Y,Y,Y,Y,Y,Y,Y,Y,Y,Y,Y,X,X,X,X,X,X] rfl rfl (any_of HT_.out (by kernel_rfl)) (fun _ _ _ h => h) (by rfl) ?_ ?_
   rotate_left
   ·simp only [qa_]
    rfl
   refine p2_ 16 34 ?_ #[Y,Y,Y,Y,Y,Y,Y,Y,Y,Y,Y,Y,Y,Y,Y,Y,Y,X,X,X,X,X] rfl rfl (any_of HT_.out (by kernel_rfl)) (fun _ _ _ h => h) (by rfl) ?_ ?_
   rotate_left
   ·simp only [qa_]
    rfl
   refine p2_ 17 35 ?_ #[Y,Y,Y,Y,Y,Y,Y,Y,Y,Y,Y,Y,Y,Y,Y,Y,Y,Y,X,X,X,X] rfl rfl (any_of HT_.out (by kernel_rfl)) (fun _ _ _ h => h) (by rfl) ?_ ?_
   rotate_left
   ·simp only [qa_]
    rfl
   refine p2_ 18 36 ?_ #[Y,Y,Y,Y,Y,Y,Y,Y,Y,Y,Y,Y,Y,Y,Y,Y,Y,Y,Y,X,X,X] rfl rfl (any_of HT_.out (by kernel_rfl)) (fun _ _ _ h => h) (by rfl) ?_ ?_
   rotate_left
   ·simp only [qa_]
    rfl
   refine p2_ 19 37 ?_ #[Y,Y,Y,Y,Y,Y,Y,Y,Y,Y,Y,Y,Y,Y,Y,Y,Y,Y,Y,Y,X,X] rfl rfl (any_of HT_.out (by kernel_rfl)) (fun _ _ _ h => h) (by rfl) ?_ ?_
   rotate_left
   ·simp only [qa_]
    rfl
   refine p1_ 20 38 ?_ #[Y,Y,Y,Y,Y,Y,Y,Y,Y,Y,Y,Y,Y,Y,Y,Y,Y,Y,Y,Y,Y,X] rfl rfl (any_of HT_.out (by kernel_rfl)) (fun _ _ _ h => h) (by rfl) ?_ ?_ ?_ ?_
   rotate_left
   ·intro w'
    go_simp
    with_reducible rfl
   rotate_left
   ·simp only [qa_]
    rfl
   refine p1_ 21 4 ?_ #[Y,Y,Y,Y,Y,Y,Y,Y,Y,Y,Y,Y,Y,Y,Y,Y,Y,Y,Y,Y,Y,Y] rfl rfl (any_of HT_.out (by kernel_rfl)) (fun _ _ _ h => h) (by rfl) ?_ ?_ ?_ ?_
   rotate_left
   ·intro w'
    go_simp
    with_reducible rfl
   rotate_left
   ·simp only [qa_]
    rfl
   refine done_ (done_of HT_.out (by kernel_rfl)) ?_
   try go_wp2
   go_ret
   exact ⟨by first | rfl | (simp [errW_none, errW_some] <;> rfl) | (simp [*, errW_none, errW_some] <;> rfl), by repeat (first | (with_reducible first | exact HB.out | apply below_alloc | apply pw_below_drewN | apply below_drew1 | refine below_set ?_ GE124.out | refine below_set ?_ GE125.out) | exact HB.out)⟩
 ·rw [if_neg c5] at H
  exact absurd H (by simp)

/-! ### lex_Join: function 24 -/
def joinStep (l : List S38) (i : Nat) : Option Bool := if i = 0 then some true else
 lex_apart.f (rd_T38 l ((i : Int) - 1)).f0 (rd_T38 l ((i : Int) - 1)).f1 (rd_T38 l ((i : Int) - 1)).f2 (rd_T38 l ((i : Int) - 1)).f3 (rd_T38 l ((i : Int) - 1)).f4
  (rd_T38 l (i : Int)).f0 (rd_T38 l (i : Int)).f1 (rd_T38 l (i : Int)).f2 (rd_T38 l (i : Int)).f3 (rd_T38 l (i : Int)).f4
def joinText (l : List S38) (i : Nat) : Option ByteArray := lex_written.f (rd_T38 l (i : Int)).f0 (rd_T38 l (i : Int)).f1 (rd_T38 l (i : Int)).f2 (rd_T38 l (i : Int)).f3 (rd_T38 l (i : Int)).f4
def sepB (b : Bool) : Lex.Bytes := if b then [] else [32]
def joinFrom (l : List S38) : Nat → Nat → Lex.Bytes → Option Lex.Bytes
 | 0, _, acc => some acc
 | k + 1, i, acc => (joinStep l i).bind fun b => (joinText l i).bind fun t => if acc.length + 1 + t.size ≤ 140737488355328 then joinFrom l k (i + 1) (acc ++ sepB b ++ t.data.toList) else none
def lex_Join.f (l : List S38) : Option (ByteArray × Int) :=
 (lex_right.f l).bind fun b => if b then (if 20000 < l.length then some (⟨#[]⟩, 2) else (joinFrom l l.length 0 []).bind fun o => if 100000 < o.length then some (⟨#[]⟩, 2) else some (⟨o.toArray⟩, 0)) else some (⟨#[]⟩, 1)
theorem join_next {l : List S38} {i : Nat} {acc out : Lex.Bytes} (hi : i < l.length) (h : joinFrom l (l.length - i) i acc = some out) :
  ∃ b t, joinStep l i = some b ∧ joinText l i = some t ∧ acc.length + 1 + t.size ≤ 140737488355328 ∧ joinFrom l (l.length - (i + 1)) (i + 1) (acc ++ sepB b ++ t.data.toList) = some out := by
 rw [show l.length - i = (l.length - (i + 1)) + 1 by omega, joinFrom] at h
 obtain ⟨b, h1, h⟩ := Option.bind_eq_some_iff.mp h
 obtain ⟨t, h2, h⟩ := Option.bind_eq_some_iff.mp h
 split at h
 ·exact ⟨b, t, h1, h2, by omega, h⟩
 ·cases h
theorem join_len {b : Bool} {acc : Lex.Bytes} {n : Nat} (h : acc.length + 1 + n ≤ 140737488355328) : (acc ++ sepB b).length + n ≤ 140737488355328 := by
 cases b <;> simp [sepB] <;> omega
theorem join_one {acc : Lex.Bytes} {n : Nat} (h : acc.length + 1 + n ≤ 140737488355328) : acc.length + 1 ≤ 140737488355328 := by omega
/-- At a round of Join. -/
structure JoinAt (w : World) (b : Nat) (l : List S38) (out : Lex.Bytes) (i : Nat) (acc : Lex.Bytes) (W : World) : Prop where
 le : i ≤ l.length
 bel : Below w.heap.size w W
 bld : Bld w.heap.size b acc W
 eq : joinFrom l (l.length - i) i acc = some out
def TokBlk (w : World) (tb : Nat) (x : S38) : Prop := w.heap[tb]? = some (.cells #[.int .i64 x.f0, .int .i64 x.f1, .string x.f2, .int .i64 x.f3, .int .i64 x.f4] 38 (0, 0))
theorem TokBlk.cells {w : World} {tb : Nat} {x : S38} (h : TokBlk w tb x) : w.cell? ⟨tb, 0, none⟩ = some (.int .i64 x.f0) ∧ w.cell? ⟨tb, 1, none⟩ = some (.int .i64 x.f1) ∧ w.cell? ⟨tb, 2, none⟩ = some (.string x.f2) ∧ w.cell? ⟨tb, 3, none⟩ = some (.int .i64 x.f3) ∧ w.cell? ⟨tb, 4, none⟩ = some (.int .i64 x.f4) :=
 ⟨by rw [cell_of_row w tb 0 _ _ _ h]; rfl, by rw [cell_of_row w tb 1 _ _ _ h]; rfl, by rw [cell_of_row w tb 2 _ _ _ h]; rfl, by rw [cell_of_row w tb 3 _ _ _ h]; rfl, by rw [cell_of_row w tb 4 _ _ _ h]; rfl⟩
/-- In a round of Join, behind the blank. -/
structure JoinIn (w : World) (bb tb : Nat) (x : S38) (acc : Lex.Bytes) (W : World) : Prop where
 bel : Below w.heap.size w W
 bld : Bld w.heap.size bb acc W
 tok : TokBlk W tb x
 ne : bb ≠ tb
theorem JoinIn.below {w : World} {bb tb : Nat} {x : S38} {acc : Lex.Bytes} {W W2 : World} (h : JoinIn w bb tb x acc W) (hb : Below W.heap.size W W2) : JoinIn w bb tb x acc W2 :=
 ⟨h.bel.trans (hb.mono h.bel.size), h.bld.below hb, (hb.block tb (Array.getElem?_eq_some_iff.1 h.tok).1).trans h.tok, h.ne⟩
theorem JoinIn.wrote {w : World} {bb tb : Nat} {x : S38} {acc acc' : Lex.Bytes} {W W2 : World} (h : JoinIn w bb tb x acc W) (h1 : Bld w.heap.size bb acc' W2) (h2 : Below w.heap.size W W2) (h3 : Kept bb W W2) : JoinIn w bb tb x acc' W2 :=
 ⟨h.bel.trans h2, h1, h3 tb _ h.tok (fun e => h.ne (by injection e with e; exact e.symm)) (fun c fz e => by injection e with _ e; exact absurd e (by decide)), h.ne⟩
set_option maxHeartbeats 8000000 in
set_option maxRecDepth 100000 in
theorem join_done (A0 : Option Addr) (c0 : Nat) (l0 : List S38) (out : Lex.Bytes) (w : World) (hr0 : Kd.C k38 w A0 l0.length l0) (hc0 : l0.length ≤ c0) (hR : lex_right.f l0 = some true) (hn : l0.length ≤ 20000) (h : joinFrom l0 l0.length 0 [] = some out) (hG : GL w) :
  Calls Tryz.prog 24 #[.slice A0 l0.length c0] w fun e w' => e = .returned (.tuple #[.string (if 100000 < out.length then ⟨#[]⟩ else ⟨out.toArray⟩), .int .i64 (if 100000 < out.length then 2 else 0)]) ∧ Below w.heap.size w w' := by
 have hx := Aside0.mk (lex_right.calls A0 c0 l0 true w hr0 hc0 hR hG)
 have HG := Aside0.mk hG
 have HR0 := Aside0.mk hr0
 have H0 := Aside0.mk h
 have hn2 : ¬ 20000 < (l0.length : Int) := by omega
 clear hr0 hc0 h hG hR
 go_enter Tryz.func24, Tryz.ntmps24
 go_wp2_with fail
 refine hx.out.mono ?_
 rintro e w1 ⟨rfl, hB⟩
 have HB := Aside0.mk hB
 clear hB hx
 go_wp2_with fail
 have hst : JoinAt w w1.heap.size l0 out 0 [] (w1.alloc (.cells #[.pointer none, .slice none 0 0] 80)) := ⟨Nat.zero_le _, HB.out.alloc HB.out.size _, bld_new _ _ HB.out.size, H0.out⟩
 generalize hWb : w1.alloc (.cells #[.pointer none, .slice none 0 0] 80) = Wb at hst ⊢
 clear hWb
 generalize w1.heap.size = bb at hst ⊢
 clear HB
 go_wp2_with fail
 go_loopg [15] l0.length (fun k t wr => ∃ (i : Nat) (acc : Lex.Bytes), l0.length - i ≤ k ∧ t = .int .i64 (i : Int) ∧ Aside0 (JoinAt w bb l0 out i acc wr))
 case atStart => exact ⟨0, [], Nat.le_refl _, rfl, ⟨hst⟩⟩
 case round =>
  obtain ⟨i, acc, hkk, rfl, HI⟩ := hrel
  by_cases hlt : i < l0.length
  ·have hlt2 : (i : Int) < (l0.length : Int) := by omega
   obtain ⟨b, t, h1, h2, h3, h4⟩ := join_next hlt HI.out.eq
   have hw64 := right_wrap hlt (by omega)
   obtain ⟨ad, e175, hx0, hx1, hx2, hx3, hx4⟩ := at_T38 HR0.out (i : Int) (by omega) (by omega)
   cases e175
   replace hx0 := (HI.out.bel.cell (World.block_lt_of_cell? w _ hx0)).trans hx0
   replace hx1 := (HI.out.bel.cell (World.block_lt_of_cell? w _ hx1)).trans hx1
   replace hx2 := (HI.out.bel.cell (World.block_lt_of_cell? w _ hx2)).trans hx2
   replace hx3 := (HI.out.bel.cell (World.block_lt_of_cell? w _ hx3)).trans hx3
   replace hx4 := (HI.out.bel.cell (World.block_lt_of_cell? w _ hx4)).trans hx4
   simp only [Int.toNat_natCast] at hx0 hx1 hx2 hx3 hx4
   have hy := hx0
   go_wp2_with fail
   have hne : bb ≠ wr.heap.size := by
    have : bb < wr.heap.size := by
     rcases HI.out.bld with h | h
     ·exact h.lt
     ·exact h.lt
    omega
   have HIn : ∀ o : Obj, o = (Obj.cells #[.int .i64 (rd_T38 l0 (i : Int)).f0, .int .i64 (rd_T38 l0 (i : Int)).f1, .string (rd_T38 l0 (i : Int)).f2, .int .i64 (rd_T38 l0 (i : Int)).f3, .int .i64 (rd_T38 l0 (i : Int)).f4] 38) → Aside0 (JoinIn w bb wr.heap.size (rd_T38 l0 (i : Int)) acc (wr.alloc o)) := by
    rintro o rfl
    exact ⟨⟨HI.out.bel.alloc HI.out.bel.size _, HI.out.bld.below (below_alloc (Below.refl _ _) _), Array.getElem?_push_size, hne⟩⟩
   have HJ := HIn _ rfl
   have H2 : Aside0 (lex_written.f (rd_T38 l0 (i : Int)).f0 (rd_T38 l0 (i : Int)).f1 (rd_T38 l0 (i : Int)).f2 (rd_T38 l0 (i : Int)).f3 (rd_T38 l0 (i : Int)).f4 = some t) := ⟨h2⟩
   have H3 := Aside0.mk h3
   have H4 := Aside0.mk h4
   clear hx0 hx1 hx2 hx3 hx4 hy HI HIn hne h2 h3 h4
   generalize hW2 : wr.alloc (Obj.cells #[.int .i64 (rd_T38 l0 (i : Int)).f0, .int .i64 (rd_T38 l0 (i : Int)).f1, .string (rd_T38 l0 (i : Int)).f2, .int .i64 (rd_T38 l0 (i : Int)).f3, .int .i64 (rd_T38 l0 (i : Int)).f4] 38) = W2 at HJ ⊢
   clear hW2
   generalize wr.heap.size = tb at HJ ⊢
   have hk := HJ.out.tok.cells
   have k0 := hk.1
   have k1 := hk.2.1
   have k2 := hk.2.2.1
   have k3 := hk.2.2.2.1
   have k4 := hk.2.2.2.2
   clear hk
   by_cases hi0 : i = 0
   ·have hb : b = true := by
     unfold joinStep at h1
     rw [if_pos hi0] at h1
     injection h1 with h1
     exact h1.symm
    subst hi0
    clear h1
    subst hb
    go_quiet (fail)
    all_goals
     have HJ3 : Aside0 (JoinIn w bb tb (rd_T38 l0 ((0 : Nat) : Int)) (acc ++ sepB true) (W2.drewN nq)) := ⟨by rw [show sepB true = [] from rfl, List.append_nil]; exact HJ.out.below (below_drewN' _ _)⟩
     clear k0 k1 k2 k3 k4
     have hk := HJ3.out.tok.cells
     have y0 := hk.1
     have y1 := hk.2.1
     have y2 := hk.2.2.1
     have y3 := hk.2.2.2.1
     have y4 := hk.2.2.2.2
     clear hk
     go_wp2_with fail
     refine (lex_written.calls _ _ _ _ _ t _ H2.out (GL.below HG.out HJ3.out.bel)).mono ?_
     rintro e w4 ⟨rfl, hB4⟩
     have HJ4 := Aside0.mk (HJ3.out.below hB4)
     clear y0 y1 y2 y3 y4 hB4
     go_wp2_with fail
     refine (bld_str w.heap.size bb _ t _ HJ4.out.bld (join_len H3.out) HJ4.out.bel.size).mono ?_
     rintro e w5 ⟨rfl, hb5, hB5, hK5⟩
     have HJ5 := Aside0.mk (HJ4.out.wrote hb5 hB5 hK5)
     clear hb5 hB5 hK5
     go_wp2_with fail
     go_roundg (l0.length - (0 + 1))
     case measure => exact drop_less hlt hkk
     case rel => exact ⟨0 + 1, _, Nat.le_refl _, by first | rfl | rw [hw64], ⟨⟨hlt, HJ5.out.bel, HJ5.out.bld, H4.out⟩⟩⟩
   ·have hi1 : (0 : Int) < (i : Int) := by omega
    have hi2 : 0 < i := by omega
    have hs1 : IntKind.i64.wrap ((i : Int) - 1) = (i : Int) - 1 := by
     rw [i64_w]
     unfold wrap64
     omega
    obtain ⟨ad, e175, hx0, hx1, hx2, hx3, hx4⟩ := at_T38 HR0.out ((i : Int) - 1) (by omega) (by omega)
    cases e175
    replace hx0 := (HJ.out.bel.cell (World.block_lt_of_cell? w _ hx0)).trans hx0
    replace hx1 := (HJ.out.bel.cell (World.block_lt_of_cell? w _ hx1)).trans hx1
    replace hx2 := (HJ.out.bel.cell (World.block_lt_of_cell? w _ hx2)).trans hx2
    replace hx3 := (HJ.out.bel.cell (World.block_lt_of_cell? w _ hx3)).trans hx3
    replace hx4 := (HJ.out.bel.cell (World.block_lt_of_cell? w _ hx4)).trans hx4
    have eN : ((i : Int) - 1).toNat = i - 1 := by omega
    have hi3 : (0 : Int) ≤ (i : Int) - 1 := by omega
    have hi4 : (i : Int) - 1 < (l0.length : Int) := by omega
    have hi5 : i - 1 < l0.length := by omega
    rw [eN] at hx0 hx1 hx2 hx3 hx4
    have hc := Aside0.mk (fun W hW => lex_apart.calls _ _ _ _ _ _ _ _ _ _ b W (by unfold joinStep at h1; rw [if_neg hi0] at h1; exact h1) hW)
    clear h1
    go_region_with (go_at_call 50; refine (hc.out _ (GL.below HG.out (HJ.out.bel.trans (Below.mono (by repeat (first | exact below_drewN' _ _ | exact Below.refl _ _ | apply Below.drew)) HJ.out.bel.size)))).mono ?_; rintro e w2 ⟨rfl, hB2⟩)
    all_goals
     have HJ2 := Aside0.mk (HJ.out.below (Below.trans (by repeat (first | exact below_drewN' _ _ | exact Below.refl _ _ | apply Below.drew)) hB2))
     clear hB2 k0 k1 k2 k3 k4 hx0 hx1 hx2 hx3 hx4
     cases b with
     | true =>
      have HJ3 : Aside0 (JoinIn w bb tb (rd_T38 l0 (i : Int)) (acc ++ sepB true) w2) := ⟨by rw [show sepB true = [] from rfl, List.append_nil]; exact HJ2.out⟩
      clear HJ2
      have hk := HJ3.out.tok.cells
      have y0 := hk.1
      have y1 := hk.2.1
      have y2 := hk.2.2.1
      have y3 := hk.2.2.2.1
      have y4 := hk.2.2.2.2
      clear hk
      go_wp2_with fail
      refine (lex_written.calls _ _ _ _ _ t _ H2.out (GL.below HG.out HJ3.out.bel)).mono ?_
      rintro e w4 ⟨rfl, hB4⟩
      have HJ4 := Aside0.mk (HJ3.out.below hB4)
      clear y0 y1 y2 y3 y4 hB4
      go_wp2_with fail
      refine (bld_str w.heap.size bb _ t _ HJ4.out.bld (join_len H3.out) HJ4.out.bel.size).mono ?_
      rintro e w5 ⟨rfl, hb5, hB5, hK5⟩
      have HJ5 := Aside0.mk (HJ4.out.wrote hb5 hB5 hK5)
      clear hb5 hB5 hK5
      go_wp2_with fail
      go_roundg (l0.length - (i + 1))
      case measure => exact drop_less hlt hkk
      case rel => exact ⟨i + 1, _, Nat.le_refl _, by first | rfl | rw [hw64], ⟨⟨hlt, HJ5.out.bel, HJ5.out.bld, H4.out⟩⟩⟩
     | false =>
      go_wp2_with fail
      refine (bld_byte w.heap.size bb _ 32 w2 HJ2.out.bld (join_one H3.out) HJ2.out.bel.size).mono ?_
      rintro e w3 ⟨rfl, hb3, hB3, hK3⟩
      have HJ3 : Aside0 (JoinIn w bb tb (rd_T38 l0 (i : Int)) (acc ++ sepB false) w3) := ⟨HJ2.out.wrote hb3 hB3 hK3⟩
      clear HJ2 hb3 hB3 hK3
      have hk := HJ3.out.tok.cells
      have y0 := hk.1
      have y1 := hk.2.1
      have y2 := hk.2.2.1
      have y3 := hk.2.2.2.1
      have y4 := hk.2.2.2.2
      clear hk
      go_wp2_with fail
      refine (lex_written.calls _ _ _ _ _ t _ H2.out (GL.below HG.out HJ3.out.bel)).mono ?_
      rintro e w4 ⟨rfl, hB4⟩
      have HJ4 := Aside0.mk (HJ3.out.below hB4)
      clear y0 y1 y2 y3 y4 hB4
      go_wp2_with fail
      refine (bld_str w.heap.size bb _ t _ HJ4.out.bld (join_len H3.out) HJ4.out.bel.size).mono ?_
      rintro e w5 ⟨rfl, hb5, hB5, hK5⟩
      have HJ5 := Aside0.mk (HJ4.out.wrote hb5 hB5 hK5)
      clear hb5 hB5 hK5
      go_wp2_with fail
      go_roundg (l0.length - (i + 1))
      case measure => exact drop_less hlt hkk
      case rel => exact ⟨i + 1, _, Nat.le_refl _, by first | rfl | rw [hw64], ⟨⟨hlt, HJ5.out.bel, HJ5.out.bld, H4.out⟩⟩⟩
  ·have hlt2 : ¬ (i : Int) < (l0.length : Int) := by omega
   have hacc : acc = out := by
    have := HI.out.eq
    rw [show l0.length - i = 0 by omega, joinFrom] at this
    injection this
   subst hacc
   go_wp2_with fail
   refine (bld_len w.heap.size bb _ wr HI.out.bld).mono ?_
   rintro e w2 ⟨rfl, rfl⟩
   by_cases hbig : 100000 < acc.length
   ·have hbig2 : (100000 : Int) < (acc.length : Int) := by omega
    go_wp2_with fail
    go_ret2
    exact ⟨rfl, HI.out.bel⟩
   ·have hbig2 : ¬ (100000 : Int) < (acc.length : Int) := by omega
    go_wp2_with fail
    refine (bld_string w.heap.size bb _ _ HI.out.bld HI.out.bel.size).mono ?_
    rintro e w3 ⟨rfl, hB3⟩
    have HB3 := Aside0.mk (HI.out.bel.trans hB3)
    clear hB3
    go_wp2_with fail
    go_ret2
    exact ⟨rfl, HB3.out⟩
set_option maxHeartbeats 8000000 in
set_option maxRecDepth 100000 in
theorem join_not (A0 : Option Addr) (c0 : Nat) (l0 : List S38) (w : World) (hr0 : Kd.C k38 w A0 l0.length l0) (hc0 : l0.length ≤ c0) (hR : lex_right.f l0 = some false) (hG : GL w) :
  Calls Tryz.prog 24 #[.slice A0 l0.length c0] w fun e w' => e = .returned (.tuple #[.string ⟨#[]⟩, .int .i64 1]) ∧ Below w.heap.size w w' := by
 have hx := Aside0.mk (lex_right.calls A0 c0 l0 false w hr0 hc0 hR hG)
 clear hr0 hc0 hG hR
 go_enter Tryz.func24, Tryz.ntmps24
 go_wp2_with fail
 refine hx.out.mono ?_
 rintro e w1 ⟨rfl, hB⟩
 have HB := Aside0.mk hB
 clear hB hx
 go_wp2_with fail
 go_ret2
 exact ⟨rfl, HB.out⟩
set_option maxHeartbeats 8000000 in
set_option maxRecDepth 100000 in
theorem join_many (A0 : Option Addr) (c0 : Nat) (l0 : List S38) (w : World) (hr0 : Kd.C k38 w A0 l0.length l0) (hc0 : l0.length ≤ c0) (hR : lex_right.f l0 = some true) (hn : 20000 < l0.length) (hG : GL w) :
  Calls Tryz.prog 24 #[.slice A0 l0.length c0] w fun e w' => e = .returned (.tuple #[.string ⟨#[]⟩, .int .i64 2]) ∧ Below w.heap.size w w' := by
 have hx := Aside0.mk (lex_right.calls A0 c0 l0 true w hr0 hc0 hR hG)
 have hn2 : (20000 : Int) < (l0.length : Int) := by omega
 clear hr0 hc0 hG hR
 go_enter Tryz.func24, Tryz.ntmps24
 go_wp2_with fail
 refine hx.out.mono ?_
 rintro e w1 ⟨rfl, hB⟩
 have HB := Aside0.mk hB
 clear hB hx
 go_wp2_with fail
 go_ret2
 exact ⟨rfl, HB.out⟩
theorem lex_Join.calls (A0 : Option Addr) (c0 : Nat) (l0 : List (S38)) (r1 : ByteArray) (r2 : Int) (w : World) (hr0 : Kd.C k38 w A0 l0.length l0) (hc0 : l0.length ≤ c0) (h : lex_Join.f l0 = some (r1, r2)) (hG : GL w) :
  Calls Tryz.prog 24 #[.slice A0 l0.length c0] w fun e w' => e = .returned (.tuple #[.string r1, .int .i64 r2]) ∧ Below w.heap.size w w' := by
 unfold lex_Join.f at h
 obtain ⟨b, hb, h⟩ := Option.bind_eq_some_iff.mp h
 cases b with
 | false =>
  injection h with h
  injection h with h1 h2
  subst h1 h2
  exact join_not A0 c0 l0 w hr0 hc0 hb hG
 | true =>
  rw [if_pos rfl] at h
  split at h
  ·rename_i hn
   injection h with h
   injection h with h1 h2
   subst h1 h2
   exact join_many A0 c0 l0 w hr0 hc0 hb hn hG
  ·rename_i hn
   obtain ⟨o, ho, h⟩ := Option.bind_eq_some_iff.mp h
   refine (join_done A0 c0 l0 o w hr0 hc0 hb (by omega) ho hG).mono ?_
   rintro e w' ⟨rfl, hB⟩
   split at h
   ·rename_i hbig
    injection h with h
    injection h with h1 h2
    subst h1 h2
    exact ⟨by rw [if_pos hbig, if_pos hbig], hB⟩
   ·rename_i hbig
    injection h with h
    injection h with h1 h2
    subst h1 h2
    exact ⟨by rw [if_neg hbig, if_neg hbig], hB⟩


/-! ### strings_Count: function 58 -/
def strings_Count.f (a0 : ByteArray) (a1 : ByteArray) : Option (Int) := if a1.size = 1 then some (Lib.countByte a0.data.toList (a1.data.toList.getD 0 0) : Int) else none
theorem strings_Count.calls (a0 : ByteArray) (a1 : ByteArray) (r : Int) (w : World) (h : strings_Count.f a0 a1 = some r) :
  Calls Tryz.prog 58 #[.string a0, .string a1] w fun e w' => e = .returned (.int .i64 r) ∧ Drawn0 w w' := by
 unfold strings_Count.f at h
 split at h
 case isFalse => cases h
 rename_i hs
 injection h with h
 subst h
 refine (count_any a0 a1 hs w).mono ?_
 rintro e w' ⟨rfl, rfl⟩
 exact ⟨rfl, Drawn0.refl _⟩


/-! ### strings_LastIndexByte: function 59 -/
def strings_LastIndexByte.f (a0 : ByteArray) (a1 : Int) : Option (Int) := if a0.size < 4611686018427387904 then some (Lib.lastIndexByte a0 a1) else none
theorem strings_LastIndexByte.calls (a0 : ByteArray) (a1 : Int) (r : Int) (w : World) (h : strings_LastIndexByte.f a0 a1 = some r) :
  Calls Tryz.prog 59 #[.string a0, .int .u8 a1] w fun e w' => e = .returned (.int .i64 r) ∧ Drawn0 w w' := by
 unfold strings_LastIndexByte.f at h
 split at h
 case isFalse => cases h
 rename_i hs
 injection h with h
 subst h
 refine (Tryz.strings_LastIndexByte a0 a1 hs w).mono ?_
 rintro e w' ⟨rfl, rfl⟩
 exact ⟨rfl, Drawn0.refl _⟩


/-! ### lex_Place: function 31 -/
def lex_Place.j0 : Nat → ByteArray → Int → Bool → Option (Int × Int × Int)
 | 0, _, _, _ => none
 | k + 1, x0, x1, x15 => if x15 = true then (some (0, 0, 1)) else (if 0 ≤ x1 then (if x1 ≤ (x0.size : Int) then ((strings_Count.f (x0.extract 0 (x1 : Int).toNat) (⟨#[10]⟩ : ByteArray)).bind fun t137 => ((strings_LastIndexByte.f (x0.extract 0 (x1 : Int).toNat) 10).bind fun t138 => (some (wrap64 (1 + t137), wrap64 (x1 - t138), 0)))) else (none)) else (none))
def lex_Place.f (k : Nat) (a0 : ByteArray) (a1 : Int) : Option (Int × Int × Int) := if a1 < 0 then (lex_Place.j0 k a0 a1 true) else (lex_Place.j0 k a0 a1 (decide (a1 > (a0.size : Int))))
theorem lex_Place.mono_l : ∀ k, (∀ y0 y1 y2, LeO (lex_Place.j0 k y0 y1 y2) (lex_Place.j0 (k + 1) y0 y1 y2))
 | 0 => fun _ _ _ r h => by simp [lex_Place.j0] at h
 | k + 1 => by
  have ih0 := lex_Place.mono_l k
  ·intro y0 y1 y2
   unfold lex_Place.j0
   repeat' first
   | (with_reducible exact ih0 _ _ _)
   | (with_reducible exact LeO.refl _)
   | (with_reducible exact LeO.none _)
   | (with_reducible refine LeO.ite ?_ ?_)
   | (with_reducible refine LeO.bind ?_ (fun _ => ?_))
   | exact ih0 _ _ _
   | exact LeO.none _
   | refine LeO.ite ?_ ?_
   | refine LeO.bind ?_ (fun _ => ?_)
theorem lex_Place.mono : ∀ a0 a1 k, LeO (lex_Place.f k a0 a1) (lex_Place.f (k + 1) a0 a1) := by
 intro a0 a1 k
 have ih0 := lex_Place.mono_l k
 unfold lex_Place.f
 repeat' first
   | (with_reducible exact ih0 _ _ _)
   | (with_reducible exact LeO.refl _)
   | (with_reducible exact LeO.none _)
   | (with_reducible refine LeO.ite ?_ ?_)
   | (with_reducible refine LeO.bind ?_ (fun _ => ?_))
   | exact ih0 _ _ _
   | exact LeO.none _
   | refine LeO.ite ?_ ?_
   | refine LeO.bind ?_ (fun _ => ?_)
set_option maxHeartbeats 8000000 in
set_option maxRecDepth 100000 in
theorem lex_Place.calls (k : Nat) (a0 : ByteArray) (a1 : Int) (r1 : Int) (r2 : Int) (r3 : Int) (w : World) (h : lex_Place.f k a0 a1 = some (r1, r2, r3)) :
  Calls Tryz.prog 31 #[.string a0, .int .i64 a1] w fun e w' => e = .returned (.tuple #[.int .i64 r1, .int .i64 r2, .int .i64 r3]) ∧ Drawn0 w w' := by
 have H : (if a1 < 0 then (lex_Place.j0 k a0 a1 true) else (lex_Place.j0 k a0 a1 (decide (a1 > (a0.size : Int))))) = some (r1, r2, r3) := h
 clear h
 have HC3 := Aside0.mk H
 clear H
 go_enter Tryz.func31, Tryz.ntmps31
 go_upto_region 1 with (fail)
 go_cut [15] (fun v15 wc => ∃ (kq : Nat) (x15_2 : Bool), v15 = .bool x15_2 ∧ Aside0 (lex_Place.j0 kq a0 a1 x15_2 = some (r1, r2, r3)) ∧ Aside0 (kq ≤ k) ∧ Drawn0 w wc)
 case first =>
  have H := HC3.out
  clear HC3
  by_cases c4 : a1 < 0
  ·rw [if_pos c4] at H
   have c4b0 : decide (a1 < 0) = true := decide_eq_true c4
   clear c4
   (first | rw [c4b0] | (simp only [i64_w, i32_w]; rw [c4b0]) | skip)
   have H' := Aside0.mk H
   clear H
   go_wp2
   go_meet
   case rel => exact ⟨_, (true), (by first | rfl | (simp; done) | (simp [*]; done)), H', ⟨by first | omega | exact Nat.le_refl _⟩, by repeat (first | exact Drawn0.refl _ | apply Drawn0.step)⟩
  ·rw [if_neg c4] at H
   have c4b0 : decide (a1 < 0) = false := decide_eq_false c4
   clear c4
   (first | rw [c4b0] | (simp only [i64_w, i32_w]; rw [c4b0]) | skip)
   have H' := Aside0.mk H
   clear H
   go_wp2
   go_meet
   case rel => exact ⟨_, (decide (a1 > (a0.size : Int))), (by first | rfl | (simp; done) | (simp [*]; done)), H', ⟨by first | omega | exact Nat.le_refl _⟩, by repeat (first | exact Drawn0.refl _ | apply Drawn0.step)⟩
 case rest =>
  clear HC3
  try clear p2
  try clear c3
  try clear c4
  try clear c4b0
  obtain ⟨kq, x15_2, rfl, HA, HJ2, ⟨mc2, rfl⟩⟩ := hcut
  cases kq with
  | zero => exact absurd HA.out (by simp [lex_Place.j0])
  | succ kj2 =>
   have H := HA.out
   clear HA
   simp only [lex_Place.j0] at H
   by_cases c5 : x15_2 = true
   ·subst c5
    have H1 : (some (0, 0, 1)) = some (r1, r2, r3) := by rw [if_pos rfl] at H; exact H
    clear H
    have H := H1
    clear H1
    simp only [Option.some.injEq, Prod.mk.injEq] at H
    obtain ⟨rfl, rfl, rfl⟩ := H
    go_wp2
    go_ret3
    exact ⟨by first | rfl | (simp; done) | (simp [*]; done), by repeat (first | exact Drawn0.refl _ | apply Drawn0.step)⟩
   ·replace c5 := Bool.eq_false_iff.mpr c5
    subst c5
    have H1 : (if 0 ≤ a1 then (if a1 ≤ (a0.size : Int) then ((strings_Count.f (a0.extract 0 (a1 : Int).toNat) (⟨#[10]⟩ : ByteArray)).bind fun t137 => ((strings_LastIndexByte.f (a0.extract 0 (a1 : Int).toNat) 10).bind fun t138 => (some (wrap64 (1 + t137), wrap64 (a1 - t138), 0)))) else (none)) else (none)) = some (r1, r2, r3) := by rw [if_neg (show ¬ (false = true) by decide)] at H; exact H
    clear H
    have H := H1
    clear H1
    by_cases c6 : 0 ≤ a1
    ·rw [if_pos c6] at H
     have c6b0 := eq_true c6
     have c6b1 : decide (0 ≤ a1) = true := decide_eq_true c6
     clear c6
     by_cases c7 : a1 ≤ (a0.size : Int)
     ·rw [if_pos c7] at H
      have c7b0 := eq_true c7
      have c7b1 : decide (a1 ≤ (a0.size : Int)) = true := decide_eq_true c7
      clear c7
      replace H := Option.bind_eq_some_iff.mp H
      obtain ⟨t137, A80, H⟩ := H
      replace H : ((strings_LastIndexByte.f (a0.extract 0 (a1 : Int).toNat) 10).bind fun t138 => (some (wrap64 (1 + t137), wrap64 (a1 - t138), 0))) = some (r1, r2, r3) := H
      have A8 := Aside0.mk A80
      clear A80
      replace H := Option.bind_eq_some_iff.mp H
      obtain ⟨t138, A90, H⟩ := H
      replace H : (some (wrap64 (1 + t137), wrap64 (a1 - t138), 0)) = some (r1, r2, r3) := H
      have A9 := Aside0.mk A90
      clear A90
      simp only [Option.some.injEq, Prod.mk.injEq] at H
      obtain ⟨rfl, rfl, rfl⟩ := H
      go_wp2_with (first | ((with_reducible refine gate_callee (f := 58) rfl ?_); refine goesL_ (some 20) rfl rfl Tryz.func58 (by kernel_rfl) rfl #[.string (a0.extract 0 (a1 : Int).toNat), .string (⟨#[10]⟩ : ByteArray)] rfl (by (try simp only [List.map_toArray, List.map_cons, List.map_nil]); first | done | rfl | (simp only [List.length_drop, List.length_take]; rfl)) ?_; (with_reducible refine (strings_Count.calls (a0.extract 0 (a1 : Int).toNat) (⟨#[10]⟩ : ByteArray) t137 _ A8.out).mono ?_); rintro e w' ⟨rfl, ⟨nd, rfl⟩⟩; refine ⟨_, rfl, ?_⟩) | ((with_reducible refine gate_callee (f := 59) rfl ?_); refine goesL_ (some 24) rfl rfl Tryz.func59 (by kernel_rfl) rfl #[.string (a0.extract 0 (a1 : Int).toNat), .int .u8 10] rfl (by (try simp only [List.map_toArray, List.map_cons, List.map_nil]); first | done | rfl | (simp only [List.length_drop, List.length_take]; rfl)) ?_; (with_reducible refine (strings_LastIndexByte.calls (a0.extract 0 (a1 : Int).toNat) 10 t138 _ A9.out).mono ?_); rintro e w' ⟨rfl, ⟨nd, rfl⟩⟩; refine ⟨_, rfl, ?_⟩))
      go_ret3
      exact ⟨by first | rfl | (simp; done) | (simp [*]; done), by repeat (first | exact Drawn0.refl _ | apply Drawn0.step)⟩
     ·rw [if_neg c7] at H
      exact absurd H (by simp)
    ·rw [if_neg c6] at H
     exact absurd H (by simp)

/-! ### madrigalref01_Text: function 27 -/
def madrigalref01_Text.f (a0_0 : Int) (a0_1 : Int) (a0_2 : ByteArray) (a0_3 : Int) (a0_4 : Int) : Option (ByteArray) := if a0_0 = 3 then ((strconv_Itoa.f a0_1).bind fun t140 => (some t140)) else (some a0_2)
set_option maxHeartbeats 8000000 in
set_option maxRecDepth 100000 in
theorem madrigalref01_Text.calls (a0_0 : Int) (a0_1 : Int) (a0_2 : ByteArray) (a0_3 : Int) (a0_4 : Int) (r : ByteArray) (w : World) (h : madrigalref01_Text.f a0_0 a0_1 a0_2 a0_3 a0_4 = some r) (hG : GL w) :
  Calls Tryz.prog 27 #[.agg #[.int .i64 a0_0, .int .i64 a0_1, .string a0_2, .int .i64 a0_3, .int .i64 a0_4]] w fun e w' => e = .returned (.string r) ∧ Below w.heap.size w w' := by
 have hu38 := Tryz.underlying38
 have HG := Aside0.mk hG
 clear hG
 have HB := Aside0.mk (Below.refl w.heap.size w)
 have H : (if a0_0 = 3 then ((strconv_Itoa.f a0_1).bind fun t140 => (some t140)) else (some a0_2)) = some r := h
 clear h
 by_cases c2 : a0_0 = 3
 ·rw [if_pos c2] at H
  have c2b0 : (a0_0 == 3) = true := beq_iff_eq.mpr c2
  have c2b1 : (a0_0 != 3) = false := bne_eq_false_iff_eq.mpr c2
  clear c2
  replace H := Option.bind_eq_some_iff.mp H
  obtain ⟨t140, A30, H⟩ := H
  replace H : (some t140) = some r := H
  have A3 := Aside0.mk A30
  clear A30
  obtain rfl := Option.some.inj H
  go_enter Tryz.func27, Tryz.ntmps27
  go_wp2_with (first | ((with_reducible refine gate_dst (N := 1) rfl ?_); refine box_event ?hg (N := 1) ?hd (cs := #[.int .i64 a0_0, .int .i64 a0_1, .string a0_2, .int .i64 a0_3, .int .i64 a0_4]) (t := 38) ?hr ?_; (case hd => rfl); (case hg => rfl); (case hr => first | (go_simp; done) | (go_simp; rfl)); intro gb139 hg w4 hbox hb; have n0_ := Aside0.mk (below_step (by repeat (first | (with_reducible first | exact HB.out | apply below_alloc | apply pw_below_drewN | apply below_drew1) | exact HB.out)) hb); have n1_ := Aside0.mk (hbox); have n2_ := Aside0.mk ((by rw [hg]; exact (below_size (by repeat (first | (with_reducible first | exact HB.out | apply below_alloc | apply pw_below_drewN | apply below_drew1) | exact HB.out))) : w.heap.size ≤ gb139)); have n3_ := Aside0.mk ((by rw [hg]; exact (below_size (by repeat (first | (with_reducible first | exact HB.out | apply below_alloc | apply pw_below_drewN | apply below_drew1) | exact HB.out))) : w.heap.size ≤ gb139)); clear HB; have HB := n0_; have BK139 := n1_; have GW139 := n2_; have GE139 := n3_; clear n0_ n1_ n2_ n3_; clear hb hbox hg; have hcz5_0 : w4.cell? ⟨gb139, 0, none⟩ = some (.int .i64 a0_0) := (blk_cell BK139.out 0).trans rfl; have hcz5_1 : w4.cell? ⟨gb139, 1, none⟩ = some (.int .i64 a0_1) := (blk_cell BK139.out 1).trans rfl; have hcz5_2 : w4.cell? ⟨gb139, 2, none⟩ = some (.string a0_2) := (blk_cell BK139.out 2).trans rfl; have hcz5_3 : w4.cell? ⟨gb139, 3, none⟩ = some (.int .i64 a0_3) := (blk_cell BK139.out 3).trans rfl; have hcz5_4 : w4.cell? ⟨gb139, 4, none⟩ = some (.int .i64 a0_4) := (blk_cell BK139.out 4).trans rfl; have hfz5_0 := blk_frozen BK139.out 0; have hfz5_1 := blk_frozen BK139.out 1; have hfz5_2 := blk_frozen BK139.out 2; have hfz5_3 := blk_frozen BK139.out 3; have hfz5_4 := blk_frozen BK139.out 4) | ((with_reducible refine gate_callee (f := 57) rfl ?_); refine goesL_ (some 8) rfl rfl Tryz.func57 (by kernel_rfl) rfl #[.int .i64 a0_1] rfl (by (try simp only [List.map_toArray, List.map_cons, List.map_nil]); first | done | rfl | (simp only [List.length_drop, List.length_take]; rfl)) ?_; (with_reducible refine (strconv_Itoa.calls a0_1 t140 _ A3.out ?side1).mono ?_); (case side1 => exact GL.below HG.out (by repeat (first | (with_reducible first | exact HB.out | apply below_alloc | apply pw_below_drewN | apply below_drew1 | refine below_set ?_ GE139.out) | exact HB.out))); rintro e w6 ⟨rfl, hb⟩; refine ⟨_, rfl, ?_⟩; have n0_ := Aside0.mk (blk_below (g := gb139) (o := .cells #[.int .i64 a0_0, .int .i64 a0_1, .string a0_2, .int .i64 a0_3, .int .i64 a0_4] 38 (0, 0)) (by (with_reducible repeat (first | refine blk_drewN ?_ _ | refine blk_drew ?_ | refine blk_alloc ?_ _)); exact BK139.out) hb); have n1_ := Aside0.mk (below_step (by repeat (first | (with_reducible first | exact HB.out | apply below_alloc | apply pw_below_drewN | apply below_drew1 | refine below_set ?_ GE139.out) | exact HB.out)) hb); clear BK139; clear HB; have BK139 := n0_; have HB := n1_; clear n0_ n1_; (try clear hb); (try clear hb2); (try clear hk); (try clear hi)))
  go_ret
  exact ⟨by first | rfl | (simp [errW_none, errW_some] <;> rfl) | (simp [*, errW_none, errW_some] <;> rfl), by repeat (first | (with_reducible first | exact HB.out | apply below_alloc | apply pw_below_drewN | apply below_drew1 | refine below_set ?_ GE139.out) | exact HB.out)⟩
 ·rw [if_neg c2] at H
  have c2b0 : (a0_0 == 3) = false := beq_eq_false_iff_ne.mpr c2
  have c2b1 : (a0_0 != 3) = true := bne_iff_ne.mpr c2
  obtain rfl := Option.some.inj H
  go_enter Tryz.func27, Tryz.ntmps27
  go_wp2_with (first | ((with_reducible refine gate_dst (N := 1) rfl ?_); refine box_event ?hg (N := 1) ?hd (cs := #[.int .i64 a0_0, .int .i64 a0_1, .string a0_2, .int .i64 a0_3, .int .i64 a0_4]) (t := 38) ?hr ?_; (case hd => rfl); (case hg => rfl); (case hr => first | (go_simp; done) | (go_simp; rfl)); intro gb139 hg w7 hbox hb; have n0_ := Aside0.mk (below_step (by repeat (first | (with_reducible first | exact HB.out | apply below_alloc | apply pw_below_drewN | apply below_drew1) | exact HB.out)) hb); have n1_ := Aside0.mk (hbox); have n2_ := Aside0.mk ((by rw [hg]; exact (below_size (by repeat (first | (with_reducible first | exact HB.out | apply below_alloc | apply pw_below_drewN | apply below_drew1) | exact HB.out))) : w.heap.size ≤ gb139)); have n3_ := Aside0.mk ((by rw [hg]; exact (below_size (by repeat (first | (with_reducible first | exact HB.out | apply below_alloc | apply pw_below_drewN | apply below_drew1) | exact HB.out))) : w.heap.size ≤ gb139)); clear HB; have HB := n0_; have BK139 := n1_; have GW139 := n2_; have GE139 := n3_; clear n0_ n1_ n2_ n3_; clear hb hbox hg; have hcz8_0 : w7.cell? ⟨gb139, 0, none⟩ = some (.int .i64 a0_0) := (blk_cell BK139.out 0).trans rfl; have hcz8_1 : w7.cell? ⟨gb139, 1, none⟩ = some (.int .i64 a0_1) := (blk_cell BK139.out 1).trans rfl; have hcz8_2 : w7.cell? ⟨gb139, 2, none⟩ = some (.string a0_2) := (blk_cell BK139.out 2).trans rfl; have hcz8_3 : w7.cell? ⟨gb139, 3, none⟩ = some (.int .i64 a0_3) := (blk_cell BK139.out 3).trans rfl; have hcz8_4 : w7.cell? ⟨gb139, 4, none⟩ = some (.int .i64 a0_4) := (blk_cell BK139.out 4).trans rfl; have hfz8_0 := blk_frozen BK139.out 0; have hfz8_1 := blk_frozen BK139.out 1; have hfz8_2 := blk_frozen BK139.out 2; have hfz8_3 := blk_frozen BK139.out 3; have hfz8_4 := blk_frozen BK139.out 4))
  go_ret
  exact ⟨by first | rfl | (simp [errW_none, errW_some] <;> rfl) | (simp [*, errW_none, errW_some] <;> rfl), by repeat (first | (with_reducible first | exact HB.out | apply below_alloc | apply pw_below_drewN | apply below_drew1 | refine below_set ?_ GE139.out) | exact HB.out)⟩
end Go.Proofs.YtglgppkjgodlkaaGreatDoor.P
