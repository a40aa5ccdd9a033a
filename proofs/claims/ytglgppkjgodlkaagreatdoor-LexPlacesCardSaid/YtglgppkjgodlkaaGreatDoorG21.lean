-- Printed by a program of this session (myprint.py, resplit.py), which drives the kit's printer; Lean checks every row.
import Derived.Test.YtglgppkjgodlkaaGreatDoorP0
import Derived.Test.YtglgppkjgodlkaaGreatDoorP1
import Derived.Test.YtglgppkjgodlkaaGreatDoorG0
import Derived.Test.YtglgppkjgodlkaaGreatDoorG1
import Derived.Test.YtglgppkjgodlkaaGreatDoorG16
import Derived.Test.YtglgppkjgodlkaaGreatDoorG2
import Derived.Test.YtglgppkjgodlkaaGreatDoorG3
import Derived.Test.YtglgppkjgodlkaaGreatDoorG4
import Derived.Test.YtglgppkjgodlkaaGreatDoorG5
import Derived.Test.YtglgppkjgodlkaaGreatDoorG6
import Derived.Test.YtglgppkjgodlkaaGreatDoorG7
import Derived.Test.YtglgppkjgodlkaaGreatDoorG8
import Derived.Test.YtglgppkjgodlkaaGreatDoorG9
namespace Go.Proofs.YtglgppkjgodlkaaGreatDoor.P
open Go.Proofs.YtglgppkjgodlkaaGreatDoorW.PrintLast Go.Proofs.YtglgppkjgodlkaaGreatDoorW.PrintMore Go.Proofs.YtglgppkjgodlkaaGreatDoorW.PrintWords Go.RowKit
attribute [local go_sem] max2_int min2_int max_two min_two max_three min_three max_four min_four   -- for this text's walks alone
set_option linter.unusedVariables false
set_option linter.unusedSimpArgs false
attribute [local go_sem high] eqA38

/-! ### madrigallaw01_LexPlaces: function 6 -/
mutual
def madrigallaw01_LexPlaces.l0 : Nat → ByteArray → Int → List (S38) → Int → Int → Option (Bool)
 | 0, _, _, _, _, _ => none
 | k + 1, x0, x6, x37, x38, x39 => if x39 < x38 then (if 0 ≤ x39 then (if x39 < (x37.length : Int) then (if ((rd_T38 x37 x39).f3) < x6 then (madrigallaw01_LexPlaces.j1 k x0 x39 x37 x38 x39 true ((rd_T38 x37 x39).f0) ((rd_T38 x37 x39).f1) ((rd_T38 x37 x39).f2) ((rd_T38 x37 x39).f3) ((rd_T38 x37 x39).f4)) else (if ((rd_T38 x37 x39).f4) ≤ ((rd_T38 x37 x39).f3) then (madrigallaw01_LexPlaces.j1 k x0 x39 x37 x38 x39 true ((rd_T38 x37 x39).f0) ((rd_T38 x37 x39).f1) ((rd_T38 x37 x39).f2) ((rd_T38 x37 x39).f3) ((rd_T38 x37 x39).f4)) else (if ((rd_T38 x37 x39).f4) > (x0.size : Int) then (madrigallaw01_LexPlaces.j1 k x0 x39 x37 x38 x39 true ((rd_T38 x37 x39).f0) ((rd_T38 x37 x39).f1) ((rd_T38 x37 x39).f2) ((rd_T38 x37 x39).f3) ((rd_T38 x37 x39).f4)) else (if 0 ≤ x6 then (if x6 ≤ ((rd_T38 x37 x39).f3) then (if ((rd_T38 x37 x39).f3) ≤ (x0.size : Int) then ((madrigallaw01_filling.f k (x0.extract (x6 : Int).toNat (((rd_T38 x37 x39).f3) : Int).toNat)).bind fun t278 => (madrigallaw01_LexPlaces.j1 k x0 x39 x37 x38 x39 (!t278) ((rd_T38 x37 x39).f0) ((rd_T38 x37 x39).f1) ((rd_T38 x37 x39).f2) ((rd_T38 x37 x39).f3) ((rd_T38 x37 x39).f4))) else (none)) else (none)) else (none))))) else (none)) else (none)) else (if 0 ≤ x6 then (if x6 ≤ (x0.size : Int) then ((madrigallaw01_filling.f k (x0.extract (x6 : Int).toNat x0.size)).bind fun t275 => (some t275)) else (none)) else (none))
def madrigallaw01_LexPlaces.j1 : Nat → ByteArray → Int → List (S38) → Int → Int → Bool → Int → Int → ByteArray → Int → Int → Option (Bool)
 | 0, _, _, _, _, _, _, _, _, _, _, _ => none
 | k + 1, x0, x7, x37, x38, x39, x70, x278000, x278001, x278002, x278003, x278004 => if x70 = true then (some false) else (if x7 < 50 then (if 0 ≤ x278003 then (if x278003 ≤ x278004 then (if x278004 ≤ (x0.size : Int) then ((lex_Kind.f (x0.extract (x278003 : Int).toNat (x278004 : Int).toNat)).bind fun t279 => (madrigallaw01_LexPlaces.j2 k x0 x37 x38 x39 (t279 != x278000) x278000 x278001 x278002 x278003 x278004)) else (none)) else (none)) else (none)) else (madrigallaw01_LexPlaces.j2 k x0 x37 x38 x39 false x278000 x278001 x278002 x278003 x278004))
def madrigallaw01_LexPlaces.j2 : Nat → ByteArray → List (S38) → Int → Int → Bool → Int → Int → ByteArray → Int → Int → Option (Bool)
 | 0, _, _, _, _, _, _, _, _, _, _ => none
 | k + 1, x0, x37, x38, x39, x84, x278000, x278001, x278002, x278003, x278004 => if x84 = true then (some false) else (if x278000 = 3 then (madrigallaw01_LexPlaces.l0 k x0 x278004 x37 x38 (wrap64 (x39 + 1))) else (if 0 ≤ x278003 then (if x278003 ≤ x278004 then (if x278004 ≤ (x0.size : Int) then (if x278002.toList = (x0.extract (x278003 : Int).toNat (x278004 : Int).toNat).toList then (madrigallaw01_LexPlaces.l0 k x0 x278004 x37 x38 (wrap64 (x39 + 1))) else (some false)) else (none)) else (none)) else (none)))
end
def madrigallaw01_LexPlaces.f (k : Nat) (a0 : ByteArray) : Option (Bool) := (madrigallaw01_sane.f).bind fun t265 => (if t265 = true then ((madrigallaw01_short.f k (([a0] : List ByteArray))).bind fun t269 => (if t269 = true then ((lex_Tokens.f a0).bind fun bt270 => (if bt270.2.2 = 0 then (madrigallaw01_LexPlaces.l0 k a0 0 bt270.1 (bt270.1.length : Int) 0) else (if (bt270.1.length : Int) = 0 then (if bt270.2.1 ≥ 0 then (some (decide (bt270.2.1 < (mx (a0.size : Int) 1)))) else (some false)) else (some false)))) else (some true))) else (some false))
theorem madrigallaw01_LexPlaces.mono_l : ∀ k, (∀ y0 y1 y2 y3 y4, LeO (madrigallaw01_LexPlaces.l0 k y0 y1 y2 y3 y4) (madrigallaw01_LexPlaces.l0 (k + 1) y0 y1 y2 y3 y4)) ∧ (∀ y0 y1 y2 y3 y4 y5 y6 y7 y8 y9 y10, LeO (madrigallaw01_LexPlaces.j1 k y0 y1 y2 y3 y4 y5 y6 y7 y8 y9 y10) (madrigallaw01_LexPlaces.j1 (k + 1) y0 y1 y2 y3 y4 y5 y6 y7 y8 y9 y10)) ∧ (∀ y0 y1 y2 y3 y4 y5 y6 y7 y8 y9, LeO (madrigallaw01_LexPlaces.j2 k y0 y1 y2 y3 y4 y5 y6 y7 y8 y9) (madrigallaw01_LexPlaces.j2 (k + 1) y0 y1 y2 y3 y4 y5 y6 y7 y8 y9))
 | 0 => ⟨fun _ _ _ _ _ r h => by simp [madrigallaw01_LexPlaces.l0] at h, fun _ _ _ _ _ _ _ _ _ _ _ r h => by simp [madrigallaw01_LexPlaces.j1] at h, fun _ _ _ _ _ _ _ _ _ _ r h => by simp [madrigallaw01_LexPlaces.j2] at h⟩
 | k + 1 => by
  obtain ⟨ih0, ih1, ih2⟩ := madrigallaw01_LexPlaces.mono_l k
  refine ⟨?_, ?_, ?_⟩
  ·intro y0 y1 y2 y3 y4
   unfold madrigallaw01_LexPlaces.l0
   repeat' first
   | (with_reducible exact ih0 _ _ _ _ _)
   | (with_reducible exact ih1 _ _ _ _ _ _ _ _ _ _ _)
   | (with_reducible exact ih2 _ _ _ _ _ _ _ _ _ _)
   | (with_reducible exact madrigallaw01_filling.mono _ _)
   | (with_reducible exact madrigallaw01_short.mono _ _)
   | (with_reducible exact LeO.refl _)
   | (with_reducible exact LeO.none _)
   | (with_reducible refine LeO.ite ?_ ?_)
   | (with_reducible refine LeO.bind ?_ (fun _ => ?_))
   | exact ih0 _ _ _ _ _
   | exact ih1 _ _ _ _ _ _ _ _ _ _ _
   | exact ih2 _ _ _ _ _ _ _ _ _ _
   | exact madrigallaw01_filling.mono _ _
   | exact madrigallaw01_short.mono _ _
   | exact LeO.none _
   | refine LeO.ite ?_ ?_
   | refine LeO.bind ?_ (fun _ => ?_)
  ·intro y0 y1 y2 y3 y4 y5 y6 y7 y8 y9 y10
   unfold madrigallaw01_LexPlaces.j1
   repeat' first
   | (with_reducible exact ih0 _ _ _ _ _)
   | (with_reducible exact ih1 _ _ _ _ _ _ _ _ _ _ _)
   | (with_reducible exact ih2 _ _ _ _ _ _ _ _ _ _)
   | (with_reducible exact madrigallaw01_filling.mono _ _)
   | (with_reducible exact madrigallaw01_short.mono _ _)
   | (with_reducible exact LeO.refl _)
   | (with_reducible exact LeO.none _)
   | (with_reducible refine LeO.ite ?_ ?_)
   | (with_reducible refine LeO.bind ?_ (fun _ => ?_))
   | exact ih0 _ _ _ _ _
   | exact ih1 _ _ _ _ _ _ _ _ _ _ _
   | exact ih2 _ _ _ _ _ _ _ _ _ _
   | exact madrigallaw01_filling.mono _ _
   | exact madrigallaw01_short.mono _ _
   | exact LeO.none _
   | refine LeO.ite ?_ ?_
   | refine LeO.bind ?_ (fun _ => ?_)
  ·intro y0 y1 y2 y3 y4 y5 y6 y7 y8 y9
   unfold madrigallaw01_LexPlaces.j2
   repeat' first
   | (with_reducible exact ih0 _ _ _ _ _)
   | (with_reducible exact ih1 _ _ _ _ _ _ _ _ _ _ _)
   | (with_reducible exact ih2 _ _ _ _ _ _ _ _ _ _)
   | (with_reducible exact madrigallaw01_filling.mono _ _)
   | (with_reducible exact madrigallaw01_short.mono _ _)
   | (with_reducible exact LeO.refl _)
   | (with_reducible exact LeO.none _)
   | (with_reducible refine LeO.ite ?_ ?_)
   | (with_reducible refine LeO.bind ?_ (fun _ => ?_))
   | exact ih0 _ _ _ _ _
   | exact ih1 _ _ _ _ _ _ _ _ _ _ _
   | exact ih2 _ _ _ _ _ _ _ _ _ _
   | exact madrigallaw01_filling.mono _ _
   | exact madrigallaw01_short.mono _ _
   | exact LeO.none _
   | refine LeO.ite ?_ ?_
   | refine LeO.bind ?_ (fun _ => ?_)
theorem madrigallaw01_LexPlaces.mono : ∀ a0 k, LeO (madrigallaw01_LexPlaces.f k a0) (madrigallaw01_LexPlaces.f (k + 1) a0) := by
 intro a0 k
 obtain ⟨ih0, ih1, ih2⟩ := madrigallaw01_LexPlaces.mono_l k
 unfold madrigallaw01_LexPlaces.f
 repeat' first
   | (with_reducible exact ih0 _ _ _ _ _)
   | (with_reducible exact ih1 _ _ _ _ _ _ _ _ _ _ _)
   | (with_reducible exact ih2 _ _ _ _ _ _ _ _ _ _)
   | (with_reducible exact madrigallaw01_filling.mono _ _)
   | (with_reducible exact madrigallaw01_short.mono _ _)
   | (with_reducible exact LeO.refl _)
   | (with_reducible exact LeO.none _)
   | (with_reducible refine LeO.ite ?_ ?_)
   | (with_reducible refine LeO.bind ?_ (fun _ => ?_))
   | exact ih0 _ _ _ _ _
   | exact ih1 _ _ _ _ _ _ _ _ _ _ _
   | exact ih2 _ _ _ _ _ _ _ _ _ _
   | exact madrigallaw01_filling.mono _ _
   | exact madrigallaw01_short.mono _ _
   | exact LeO.none _
   | refine LeO.ite ?_ ?_
   | refine LeO.bind ?_ (fun _ => ?_)
def madrigallaw01_LexPlaces.T14 : Bool × List (List Nat × List Nat) := (true, [([], []), ([0], [0]), ([1], [1]), ([2], [2]), ([2], [2]), ([4, 2], [2, 4]), ([2], [2]), ([6, 2], [2, 6]), ([3, 5, 7, 2], [2, 3, 5, 7]), ([8, 2, 2], [2, 8]), ([2], [2]), ([10, 2], [2, 10]), ([9, 11, 2], [2, 9, 11]), ([2, 12], [2, 12])])
def madrigallaw01_LexPlaces.B14 : List Nat := [0, 1, 3, 7, 7, 23, 7, 71, 255, 511, 7, 1031, 4095, 8191]
theorem madrigallaw01_LexPlaces.tab14 : rtab .any (opsOf Tryz.f6 14) = madrigallaw01_LexPlaces.T14 := by kernel_rfl
theorem madrigallaw01_LexPlaces.bits14 : waitsOk madrigallaw01_LexPlaces.T14.2 madrigallaw01_LexPlaces.B14 = true := by kernel_rfl
def madrigallaw01_LexPlaces.T16 : Bool × List (List Nat × List Nat) := (true, [([], []), ([0], [0]), ([1], [1]), ([2], [2]), ([3], [3]), ([4, 3], [3, 4]), ([3], [3]), ([3], [3]), ([7, 3], [3, 7]), ([3], [3]), ([9, 3], [3, 9]), ([6, 8, 10, 3], [3, 6, 8, 10]), ([5, 11, 3], [3, 5, 11]), ([3, 12], [3, 12])])
def madrigallaw01_LexPlaces.B16 : List Nat := [0, 1, 3, 7, 15, 31, 15, 15, 143, 15, 527, 1999, 4095, 8191]
theorem madrigallaw01_LexPlaces.tab16 : rtab .any (opsOf Tryz.f6 16) = madrigallaw01_LexPlaces.T16 := by kernel_rfl
theorem madrigallaw01_LexPlaces.bits16 : waitsOk madrigallaw01_LexPlaces.T16.2 madrigallaw01_LexPlaces.B16 = true := by kernel_rfl
set_option maxHeartbeats 8000000 in
set_option maxRecDepth 100000 in
theorem madrigallaw01_LexPlaces.calls (k : Nat) (a0 : ByteArray) (r : Bool) (w : World) (h : madrigallaw01_LexPlaces.f k a0 = some r) (hG : GL w) :
  Calls Tryz.prog 6 #[.string a0] w fun e w' => e = .returned (.bool r) ∧ Below w.heap.size w w' := by
 have hu38 := Tryz.underlying38
 have HG := Aside0.mk hG
 clear hG
 have HB := Aside0.mk (Below.refl w.heap.size w)
 have H : ((madrigallaw01_sane.f).bind fun t265 => (if t265 = true then ((madrigallaw01_short.f k (([a0] : List ByteArray))).bind fun t269 => (if t269 = true then ((lex_Tokens.f a0).bind fun bt270 => (if bt270.2.2 = 0 then (madrigallaw01_LexPlaces.l0 k a0 0 bt270.1 (bt270.1.length : Int) 0) else (if (bt270.1.length : Int) = 0 then (if bt270.2.1 ≥ 0 then (some (decide (bt270.2.1 < (mx (a0.size : Int) 1)))) else (some false)) else (some false)))) else (some true))) else (some false))) = some r := h
 clear h
 replace H := Option.bind_eq_some_iff.mp H
 obtain ⟨t265, A20, H⟩ := H
 replace H : (if t265 = true then ((madrigallaw01_short.f k (([a0] : List ByteArray))).bind fun t269 => (if t269 = true then ((lex_Tokens.f a0).bind fun bt270 => (if bt270.2.2 = 0 then (madrigallaw01_LexPlaces.l0 k a0 0 bt270.1 (bt270.1.length : Int) 0) else (if (bt270.1.length : Int) = 0 then (if bt270.2.1 ≥ 0 then (some (decide (bt270.2.1 < (mx (a0.size : Int) 1)))) else (some false)) else (some false)))) else (some true))) else (some false)) = some r := H
 have A2 := Aside0.mk A20
 clear A20
 by_cases c3 : t265 = true
 ·subst c3
  have H1 : ((madrigallaw01_short.f k (([a0] : List ByteArray))).bind fun t269 => (if t269 = true then ((lex_Tokens.f a0).bind fun bt270 => (if bt270.2.2 = 0 then (madrigallaw01_LexPlaces.l0 k a0 0 bt270.1 (bt270.1.length : Int) 0) else (if (bt270.1.length : Int) = 0 then (if bt270.2.1 ≥ 0 then (some (decide (bt270.2.1 < (mx (a0.size : Int) 1)))) else (some false)) else (some false)))) else (some true))) = some r := by rw [if_pos rfl] at H; exact H
  clear H
  have H := H1
  clear H1
  obtain ⟨y266, hy266⟩ : ∃ y_ : List ByteArray, y_ = (([a0] : List ByteArray)) := ⟨_, rfl⟩
  replace H : ((madrigallaw01_short.f k y266).bind fun t269 => (if t269 = true then ((lex_Tokens.f a0).bind fun bt270 => (if bt270.2.2 = 0 then (madrigallaw01_LexPlaces.l0 k a0 0 bt270.1 (bt270.1.length : Int) 0) else (if (bt270.1.length : Int) = 0 then (if bt270.2.1 ≥ 0 then (some (decide (bt270.2.1 < (mx (a0.size : Int) 1)))) else (some false)) else (some false)))) else (some true))) = some r := by first | (rw [hy266]; with_reducible exact H) | (have H2_ := (Option.bind_some _ _).symm.trans H; rw [hy266]; with_reducible exact H2_) | (have H2_ := (Option.bind_some _ _).symm.trans H; with_reducible exact H2_) | with_reducible exact H | (rw [hy266]; exact H) | exact H
  have Ny266 := Aside0.mk hy266
  clear hy266
  replace H := Option.bind_eq_some_iff.mp H
  obtain ⟨t269, A40, H⟩ := H
  replace H : (if t269 = true then ((lex_Tokens.f a0).bind fun bt270 => (if bt270.2.2 = 0 then (madrigallaw01_LexPlaces.l0 k a0 0 bt270.1 (bt270.1.length : Int) 0) else (if (bt270.1.length : Int) = 0 then (if bt270.2.1 ≥ 0 then (some (decide (bt270.2.1 < (mx (a0.size : Int) 1)))) else (some false)) else (some false)))) else (some true)) = some r := H
  have A4 := Aside0.mk A40
  clear A40
  by_cases c5 : t269 = true
  ·subst c5
   have H1 : ((lex_Tokens.f a0).bind fun bt270 => (if bt270.2.2 = 0 then (madrigallaw01_LexPlaces.l0 k a0 0 bt270.1 (bt270.1.length : Int) 0) else (if (bt270.1.length : Int) = 0 then (if bt270.2.1 ≥ 0 then (some (decide (bt270.2.1 < (mx (a0.size : Int) 1)))) else (some false)) else (some false)))) = some r := by rw [if_pos rfl] at H; exact H
   clear H
   have H := H1
   clear H1
   replace H := Option.bind_eq_some_iff.mp H
   obtain ⟨⟨t270, t271, t272⟩, A60, H⟩ := H
   replace H : (if t272 = 0 then (madrigallaw01_LexPlaces.l0 k a0 0 t270 (t270.length : Int) 0) else (if (t270.length : Int) = 0 then (if t271 ≥ 0 then (some (decide (t271 < (mx (a0.size : Int) 1)))) else (some false)) else (some false))) = some r := H
   have A6 := Aside0.mk A60
   clear A60
   by_cases c7 : t272 = 0
   ·rw [if_pos c7] at H
    have c7b0 : (t272 == 0) = true := beq_iff_eq.mpr c7
    have c7b1 : (t272 != 0) = false := bne_eq_false_iff_eq.mpr c7
    clear c7
    have H' := Aside0.mk H
    clear H
    go_enter Tryz.func6, Tryz.ntmps6
    go_wp2_with (first | ((with_reducible refine gate_callee (f := 11) rfl ?_); refine goesL_ (some 9) rfl rfl Tryz.func11 (by kernel_rfl) rfl #[] rfl (by (try simp only [List.map_toArray, List.map_cons, List.map_nil]); first | done | rfl | (simp only [List.length_drop, List.length_take]; rfl)) ?_; (with_reducible refine (madrigallaw01_sane.calls  true _ A2.out ?side1).mono ?_); (case side1 => exact GL.below HG.out (by repeat (first | (with_reducible first | exact HB.out | apply below_alloc | apply pw_below_drewN | apply below_drew1) | exact HB.out))); rintro e w8 ⟨rfl, hb⟩; refine ⟨_, rfl, ?_⟩; have n0_ := Aside0.mk (below_step (by repeat (first | (with_reducible first | exact HB.out | apply below_alloc | apply pw_below_drewN | apply below_drew1) | exact HB.out)) hb); clear HB; have HB := n0_; clear n0_; (try clear hb); (try clear hb2); (try clear hk); (try clear hi)) | ((with_reducible refine gate_dst (N := 12) rfl ?_); (try (refine gate_guard (by rfl) ?_; dsimp only)); refine Kd.R_lit Kd.string _ 9 ?hg (N := 12) ?hd (xs := ([a0] : List ByteArray)) (inner := [.string a0]) (ok := fun _ => True) (okp := fun _ => True) ?hr ?hp (fun _ hk => hk) trivial (Below.refl _ _) (Nat.le_refl _) (by simp) ?_; (case hd => rfl); (case hg => rfl); (case hr => first | (go_simp; done) | (go_simp; rfl)); (case hp => exact (Reps.one (show Kd.M Kd.string _ _ _ a0 [.string a0] from rfl) (Reps.none _ _))); intro v267 w9 ho10 hb hg_ hnew_; clear hg_ hnew_; (first | rw [← Ny266.out] at ho10 | (simp only [Int.reduceToNat] at ho10; rw [← Ny266.out] at ho10)); have n0_ := Aside0.mk (Kd.R_lower ho10 (below_size (by repeat (first | (with_reducible first | exact HB.out | apply below_alloc | apply pw_below_drewN | apply below_drew1) | exact HB.out)))); have n1_ := Aside0.mk (below_step (by repeat (first | (with_reducible first | exact HB.out | apply below_alloc | apply pw_below_drewN | apply below_drew1) | exact HB.out)) hb); clear HB; have HO268 := n0_; have HB := n1_; clear n0_ n1_; clear hb ho10; obtain ⟨Ao11, co11, eo11⟩ := Kd.R_slice HO268.out; subst eo11) | ((with_reducible refine gate_callee (f := 12) rfl ?_); refine goesL_ (some 13) rfl rfl Tryz.func12 (by kernel_rfl) rfl #[.slice Ao11 y266.length co11] rfl (by (try simp only [List.map_toArray, List.map_cons, List.map_nil]); first | done | rfl | (simp only [List.length_drop, List.length_take]; rfl)) ?_; (with_reducible refine (madrigallaw01_short.calls k _ _ y266 true _ ?side1 ?side2 A4.out).mono ?_); (case side1 => repeat (first | exact (Kd.R_reads' HO268.out).2.2 | (with_reducible refine Kd.C_alloc ?_ _) | (with_reducible refine Kd.C_drewN ?_ _) | (with_reducible refine Kd.C_drew ?_))); (case side2 => exact (Kd.R_reads' HO268.out).2.1); rintro e w' ⟨rfl, ⟨nd, rfl⟩⟩; refine ⟨_, rfl, ?_⟩) | ((with_reducible refine gate_callee (f := 13) rfl ?_); refine goesL_ (some 17) rfl rfl Tryz.func13 (by kernel_rfl) rfl #[.string a0] rfl (by (try simp only [List.map_toArray, List.map_cons, List.map_nil]); first | done | rfl | (simp only [List.length_drop, List.length_take]; rfl)) ?_; (with_reducible refine (lex_Tokens.calls a0 t270 t271 t272 _ A6.out ?side1).mono ?_); (case side1 => exact GL.below HG.out (by repeat (first | (with_reducible first | exact HB.out | apply below_alloc | apply pw_below_drewN | apply below_drew1) | exact HB.out))); rintro e w12 ⟨v273, rfl, ho0, hb⟩; refine ⟨_, rfl, ?_⟩; have n0_ := Aside0.mk (Kd.R_below (by (with_reducible repeat (first | apply Kd.R_alloc | apply Kd.R_drewN | apply Kd.R_drew)); exact HO268.out) hb); have n1_ := Aside0.mk (Kd.R_lower ho0 (below_size (by repeat (first | (with_reducible first | exact HB.out | apply below_alloc | apply pw_below_drewN | apply below_drew1) | exact HB.out)))); have n2_ := Aside0.mk (below_step (by repeat (first | (with_reducible first | exact HB.out | apply below_alloc | apply pw_below_drewN | apply below_drew1) | exact HB.out)) hb); clear HO268; clear HB; have HO268 := n0_; have HO274 := n1_; have HB := n2_; clear n0_ n1_ n2_; (try clear hb); (try clear hb2); (try clear hk); (try clear hi); (try clear ho0); obtain ⟨Ao13, co13, eo13⟩ := Kd.R_slice HO274.out; subst eo13))
    go_loopg [6, 39] k (fun kq v6 v39 w' => ∃ (x6_1 : Int) (x39_1 : Int), v6 = .int .i64 x6_1 ∧ v39 = .int .i64 x39_1 ∧ Aside0 (madrigallaw01_LexPlaces.l0 kq a0 x6_1 t270 (t270.length : Int) x39_1 = some r) ∧ Aside0 (kq ≤ k) ∧ Aside0 (Kd.R k38 38 w' w.heap.size (fun _ => True) (.slice Ao13 t270.length co13) t270) ∧ Aside0 (Below w.heap.size w w'))
    case atStart => exact ⟨(0), (0), (by first | rfl | (simp; done) | (simp [*]; done)), (by first | rfl | (simp; done) | (simp [*]; done)), H', ⟨Nat.le_refl _⟩, ⟨by (with_reducible repeat (first | apply Kd.R_alloc | apply Kd.R_drewN | apply Kd.R_drew)); exact HO274.out⟩, ⟨by repeat (first | (with_reducible first | exact HB.out | apply below_alloc | apply pw_below_drewN | apply below_drew1) | exact HB.out)⟩⟩
    case round =>
     clear H'
     try clear c1
     try clear p2
     try clear c3
     try clear c5
     try clear c6
     try clear c7
     try clear c7b0
     try clear c7b1
     try clear c11
     try clear c12
     try clear c13
     obtain ⟨x6_1, x39_1, rfl, rfl, HA, HK1, HO_37, HB⟩ := hrel
     cases gk with
     | zero => exact absurd HA.out (by simp [madrigallaw01_LexPlaces.l0])
     | succ k1 =>
      have H := HA.out
      clear HA
      simp only [madrigallaw01_LexPlaces.l0] at H
      by_cases c14 : x39_1 < (t270.length : Int)
      ·rw [if_pos c14] at H
       have c14b0 : decide (x39_1 < (t270.length : Int)) = true := decide_eq_true c14
       clear c14
       by_cases c15 : 0 ≤ x39_1
       ·rw [if_pos c15] at H
        have c15b0 : decide (0 ≤ x39_1) = true := decide_eq_true c15
        clear c15
        by_cases c16 : x39_1 < (t270.length : Int)
        ·rw [if_pos c16] at H
         have c16b0 : decide (x39_1 < (t270.length : Int)) = true := decide_eq_true c16
         clear c16
         have HC17 := Aside0.mk H
         clear H
         have p276 : 0 ≤ (x39_1 : Int) := of_decide_eq_true (by first | (with_reducible assumption) | assumption)
         have q276 : x39_1 < (t270.length : Int) := of_decide_eq_true (by first | (with_reducible assumption) | assumption)
         obtain ⟨ad276, e276, hx276_0, hx276_1, hx276_2, hx276_3, hx276_4⟩ := at_T38 (Kd.R_reads' HO_37.out).2.2 x39_1 p276 q276
         cases e276
         replace p276 := eq_true p276
         replace q276 := eq_true q276
         go_upto_region 12 with (first | ((with_reducible refine gate_dst (N := 8) rfl ?_); (try (refine gate_guard (by rfl) ?_; dsimp only)); refine box_event ?hg (N := 8) ?hd (cs := #[.int .i64 0, .int .i64 0, .string (⟨#[]⟩ : ByteArray), .int .i64 0, .int .i64 0]) (t := 38) ?hr ?_; (case hd => rfl); (case hg => rfl); (case hr => first | (go_simp; done) | (go_simp; rfl)); intro gb277 hg w18 hbox hb; have n0_ := Aside0.mk (Kd.R_below (Kd.R_elderB (by (with_reducible repeat (first | apply Kd.R_alloc | apply Kd.R_drewN | apply Kd.R_drew)); exact HO_37.out) gb277 (Nat.le_of_eq hg.symm)) hb); have n1_ := Aside0.mk (below_step (by repeat (first | (with_reducible first | exact HB.out | apply below_alloc | apply pw_below_drewN | apply below_drew1) | exact HB.out)) hb); have n2_ := Aside0.mk (hbox); have n3_ := Aside0.mk ((by rw [hg]; exact (below_size (by repeat (first | (with_reducible first | exact HB.out | apply below_alloc | apply pw_below_drewN | apply below_drew1) | exact HB.out))) : w.heap.size ≤ gb277)); have n4_ := Aside0.mk ((by rw [hg]; exact (below_size (by repeat (first | (with_reducible first | exact HB.out | apply below_alloc | apply pw_below_drewN | apply below_drew1) | exact HB.out))) : w.heap.size ≤ gb277)); clear HO_37; clear HB; have HO_37 := n0_; have HB := n1_; have BK277 := n2_; have GW277 := n3_; have GE277 := n4_; clear n0_ n1_ n2_ n3_ n4_; clear hb hbox hg; have hcz19_0 : w18.cell? ⟨gb277, 0, none⟩ = some (.int .i64 0) := (blk_cell BK277.out 0).trans rfl; have hcz19_1 : w18.cell? ⟨gb277, 1, none⟩ = some (.int .i64 0) := (blk_cell BK277.out 1).trans rfl; have hcz19_2 : w18.cell? ⟨gb277, 2, none⟩ = some (.string (⟨#[]⟩ : ByteArray)) := (blk_cell BK277.out 2).trans rfl; have hcz19_3 : w18.cell? ⟨gb277, 3, none⟩ = some (.int .i64 0) := (blk_cell BK277.out 3).trans rfl; have hcz19_4 : w18.cell? ⟨gb277, 4, none⟩ = some (.int .i64 0) := (blk_cell BK277.out 4).trans rfl; have hfz19_0 := blk_frozen BK277.out 0; have hfz19_1 := blk_frozen BK277.out 1; have hfz19_2 := blk_frozen BK277.out 2; have hfz19_3 := blk_frozen BK277.out 3; have hfz19_4 := blk_frozen BK277.out 4))
         (try simp only [Act.put, List.setIfInBounds_toArray, List.set_cons_zero, List.set_cons_succ])
         go_cut [70] (fun v70 wc => ∃ (kq : Nat) (x70_16 : Bool), v70 = .bool x70_16 ∧ Aside0 (madrigallaw01_LexPlaces.j1 kq a0 x39_1 t270 (t270.length : Int) x39_1 x70_16 ((rd_T38 t270 x39_1).f0) ((rd_T38 t270 x39_1).f1) ((rd_T38 t270 x39_1).f2) ((rd_T38 t270 x39_1).f3) ((rd_T38 t270 x39_1).f4) = some r) ∧ Aside0 (kq ≤ k1) ∧ Aside0 (Kd.R k38 38 wc w.heap.size (fun k_ => k_ ≠ gb277) (.slice (some ad276) t270.length co13) t270) ∧ Aside0 (wc.heap[gb277]? = some (.cells #[.int .i64 ((rd_T38 t270 x39_1).f0), .int .i64 ((rd_T38 t270 x39_1).f1), .string ((rd_T38 t270 x39_1).f2), .int .i64 ((rd_T38 t270 x39_1).f3), .int .i64 ((rd_T38 t270 x39_1).f4)] 38 (0, 0))) ∧ Aside0 (Below w.heap.size w wc))
         case first =>
          have H := HC17.out
          clear HC17
          by_cases c20 : ((rd_T38 t270 x39_1).f3) < x6_1
          ·rw [if_pos c20] at H
           have c20b0 : decide (((rd_T38 t270 x39_1).f3) < x6_1) = true := decide_eq_true c20
           clear c20
           (first | rw [c20b0] | (simp only [i64_w, i32_w]; rw [c20b0]) | skip)
           have H' := Aside0.mk H
           clear H
           have hcz21_0 : w18.cell? ⟨gb277, 0, none⟩ = some (.int .i64 0) := (blk_cell BK277.out 0).trans rfl
           have hcz21_1 : w18.cell? ⟨gb277, 1, none⟩ = some (.int .i64 0) := (blk_cell BK277.out 1).trans rfl
           have hcz21_2 : w18.cell? ⟨gb277, 2, none⟩ = some (.string (⟨#[]⟩ : ByteArray)) := (blk_cell BK277.out 2).trans rfl
           have hcz21_3 : w18.cell? ⟨gb277, 3, none⟩ = some (.int .i64 0) := (blk_cell BK277.out 3).trans rfl
           have hcz21_4 : w18.cell? ⟨gb277, 4, none⟩ = some (.int .i64 0) := (blk_cell BK277.out 4).trans rfl
           have hfz21_0 := blk_frozen BK277.out 0
           have hfz21_1 := blk_frozen BK277.out 1
           have hfz21_2 := blk_frozen BK277.out 2
           have hfz21_3 := blk_frozen BK277.out 3
           have hfz21_4 := blk_frozen BK277.out 4
           go_wp2
           go_meet
           case rel => exact ⟨_, (true), (by first | rfl | (simp; done) | (simp [*]; done)), H', ⟨by have := HK1.out; first | omega | exact Nat.le_refl _⟩, ⟨by (with_reducible repeat (first | apply Kd.R_alloc | apply Kd.R_drewN | apply Kd.R_drew)); exact Kd.R_mono (Kd.R_far (p := ⟨gb277, 4, none⟩) (Kd.R_far (p := ⟨gb277, 3, none⟩) (Kd.R_far (p := ⟨gb277, 2, none⟩) (Kd.R_far (p := ⟨gb277, 1, none⟩) (Kd.R_far (p := ⟨gb277, 0, none⟩) (Kd.R_mono HO_37.out (fun k_ hk => (⟨hk, hk.2⟩ : _ ∧ k_ ≠ gb277))) (fun _ hk => hk.2) (.int .i64 ((rd_T38 t270 x39_1).f0))) (fun _ hk => hk.2) (.int .i64 ((rd_T38 t270 x39_1).f1))) (fun _ hk => hk.2) (.string ((rd_T38 t270 x39_1).f2))) (fun _ hk => hk.2) (.int .i64 ((rd_T38 t270 x39_1).f3))) (fun _ hk => hk.2) (.int .i64 ((rd_T38 t270 x39_1).f4))) (fun _ hk => hk.1.2)⟩, ⟨by (with_reducible repeat (first | refine blk_drewN ?_ _ | refine blk_drew ?_ | refine blk_alloc ?_ _)); refine blk_put (cs := #[.int .i64 ((rd_T38 t270 x39_1).f0), .int .i64 ((rd_T38 t270 x39_1).f1), .string ((rd_T38 t270 x39_1).f2), .int .i64 ((rd_T38 t270 x39_1).f3), .int .i64 0]) ?_ 4 _ rfl; (with_reducible repeat (first | refine blk_drewN ?_ _ | refine blk_drew ?_ | refine blk_alloc ?_ _)); refine blk_put (cs := #[.int .i64 ((rd_T38 t270 x39_1).f0), .int .i64 ((rd_T38 t270 x39_1).f1), .string ((rd_T38 t270 x39_1).f2), .int .i64 0, .int .i64 0]) ?_ 3 _ rfl; (with_reducible repeat (first | refine blk_drewN ?_ _ | refine blk_drew ?_ | refine blk_alloc ?_ _)); refine blk_put (cs := #[.int .i64 ((rd_T38 t270 x39_1).f0), .int .i64 ((rd_T38 t270 x39_1).f1), .string (⟨#[]⟩ : ByteArray), .int .i64 0, .int .i64 0]) ?_ 2 _ rfl; (with_reducible repeat (first | refine blk_drewN ?_ _ | refine blk_drew ?_ | refine blk_alloc ?_ _)); refine blk_put (cs := #[.int .i64 ((rd_T38 t270 x39_1).f0), .int .i64 0, .string (⟨#[]⟩ : ByteArray), .int .i64 0, .int .i64 0]) ?_ 1 _ rfl; (with_reducible repeat (first | refine blk_drewN ?_ _ | refine blk_drew ?_ | refine blk_alloc ?_ _)); refine blk_put (cs := #[.int .i64 0, .int .i64 0, .string (⟨#[]⟩ : ByteArray), .int .i64 0, .int .i64 0]) ?_ 0 _ rfl; (with_reducible repeat (first | refine blk_drewN ?_ _ | refine blk_drew ?_ | refine blk_alloc ?_ _)); exact BK277.out⟩, ⟨by repeat (first | (with_reducible first | exact HB.out | apply below_alloc | apply pw_below_drewN | apply below_drew1 | refine below_set ?_ GE277.out) | exact HB.out)⟩⟩
          ·rw [if_neg c20] at H
           have c20b0 : decide (((rd_T38 t270 x39_1).f3) < x6_1) = false := decide_eq_false c20
           clear c20
           (first | rw [c20b0] | (simp only [i64_w, i32_w]; rw [c20b0]) | skip)
           by_cases c22 : ((rd_T38 t270 x39_1).f4) ≤ ((rd_T38 t270 x39_1).f3)
           ·rw [if_pos c22] at H
            have c22b0 : decide (((rd_T38 t270 x39_1).f4) ≤ ((rd_T38 t270 x39_1).f3)) = true := decide_eq_true c22
            clear c22
            have H' := Aside0.mk H
            clear H
            have hcz23_0 : w18.cell? ⟨gb277, 0, none⟩ = some (.int .i64 0) := (blk_cell BK277.out 0).trans rfl
            have hcz23_1 : w18.cell? ⟨gb277, 1, none⟩ = some (.int .i64 0) := (blk_cell BK277.out 1).trans rfl
            have hcz23_2 : w18.cell? ⟨gb277, 2, none⟩ = some (.string (⟨#[]⟩ : ByteArray)) := (blk_cell BK277.out 2).trans rfl
            have hcz23_3 : w18.cell? ⟨gb277, 3, none⟩ = some (.int .i64 0) := (blk_cell BK277.out 3).trans rfl
            have hcz23_4 : w18.cell? ⟨gb277, 4, none⟩ = some (.int .i64 0) := (blk_cell BK277.out 4).trans rfl
            have hfz23_0 := blk_frozen BK277.out 0
            have hfz23_1 := blk_frozen BK277.out 1
            have hfz23_2 := blk_frozen BK277.out 2
            have hfz23_3 := blk_frozen BK277.out 3
            have hfz23_4 := blk_frozen BK277.out 4
            go_wp2
            go_meet
            case rel => exact ⟨_, (true), (by first | rfl | (simp; done) | (simp [*]; done)), H', ⟨by have := HK1.out; first | omega | exact Nat.le_refl _⟩, ⟨by (with_reducible repeat (first | apply Kd.R_alloc | apply Kd.R_drewN | apply Kd.R_drew)); exact Kd.R_mono (Kd.R_far (p := ⟨gb277, 4, none⟩) (Kd.R_far (p := ⟨gb277, 3, none⟩) (Kd.R_far (p := ⟨gb277, 2, none⟩) (Kd.R_far (p := ⟨gb277, 1, none⟩) (Kd.R_far (p := ⟨gb277, 0, none⟩) (Kd.R_mono HO_37.out (fun k_ hk => (⟨hk, hk.2⟩ : _ ∧ k_ ≠ gb277))) (fun _ hk => hk.2) (.int .i64 ((rd_T38 t270 x39_1).f0))) (fun _ hk => hk.2) (.int .i64 ((rd_T38 t270 x39_1).f1))) (fun _ hk => hk.2) (.string ((rd_T38 t270 x39_1).f2))) (fun _ hk => hk.2) (.int .i64 ((rd_T38 t270 x39_1).f3))) (fun _ hk => hk.2) (.int .i64 ((rd_T38 t270 x39_1).f4))) (fun _ hk => hk.1.2)⟩, ⟨by (with_reducible repeat (first | refine blk_drewN ?_ _ | refine blk_drew ?_ | refine blk_alloc ?_ _)); refine blk_put (cs := #[.int .i64 ((rd_T38 t270 x39_1).f0), .int .i64 ((rd_T38 t270 x39_1).f1), .string ((rd_T38 t270 x39_1).f2), .int .i64 ((rd_T38 t270 x39_1).f3), .int .i64 0]) ?_ 4 _ rfl; (with_reducible repeat (first | refine blk_drewN ?_ _ | refine blk_drew ?_ | refine blk_alloc ?_ _)); refine blk_put (cs := #[.int .i64 ((rd_T38 t270 x39_1).f0), .int .i64 ((rd_T38 t270 x39_1).f1), .string ((rd_T38 t270 x39_1).f2), .int .i64 0, .int .i64 0]) ?_ 3 _ rfl; (with_reducible repeat (first | refine blk_drewN ?_ _ | refine blk_drew ?_ | refine blk_alloc ?_ _)); refine blk_put (cs := #[.int .i64 ((rd_T38 t270 x39_1).f0), .int .i64 ((rd_T38 t270 x39_1).f1), .string (⟨#[]⟩ : ByteArray), .int .i64 0, .int .i64 0]) ?_ 2 _ rfl; (with_reducible repeat (first | refine blk_drewN ?_ _ | refine blk_drew ?_ | refine blk_alloc ?_ _)); refine blk_put (cs := #[.int .i64 ((rd_T38 t270 x39_1).f0), .int .i64 0, .string (⟨#[]⟩ : ByteArray), .int .i64 0, .int .i64 0]) ?_ 1 _ rfl; (with_reducible repeat (first | refine blk_drewN ?_ _ | refine blk_drew ?_ | refine blk_alloc ?_ _)); refine blk_put (cs := #[.int .i64 0, .int .i64 0, .string (⟨#[]⟩ : ByteArray), .int .i64 0, .int .i64 0]) ?_ 0 _ rfl; (with_reducible repeat (first | refine blk_drewN ?_ _ | refine blk_drew ?_ | refine blk_alloc ?_ _)); exact BK277.out⟩, ⟨by repeat (first | (with_reducible first | exact HB.out | apply below_alloc | apply pw_below_drewN | apply below_drew1 | refine below_set ?_ GE277.out) | exact HB.out)⟩⟩
           ·rw [if_neg c22] at H
            have c22b0 : decide (((rd_T38 t270 x39_1).f4) ≤ ((rd_T38 t270 x39_1).f3)) = false := decide_eq_false c22
            clear c22
            by_cases c24 : ((rd_T38 t270 x39_1).f4) > (a0.size : Int)
            ·rw [if_pos c24] at H
             have c24b0 : decide ((a0.size : Int) < ((rd_T38 t270 x39_1).f4)) = true := decide_eq_true c24
             clear c24
             have H' := Aside0.mk H
             clear H
             have hcz25_0 : w18.cell? ⟨gb277, 0, none⟩ = some (.int .i64 0) := (blk_cell BK277.out 0).trans rfl
             have hcz25_1 : w18.cell? ⟨gb277, 1, none⟩ = some (.int .i64 0) := (blk_cell BK277.out 1).trans rfl
             have hcz25_2 : w18.cell? ⟨gb277, 2, none⟩ = some (.string (⟨#[]⟩ : ByteArray)) := (blk_cell BK277.out 2).trans rfl
             have hcz25_3 : w18.cell? ⟨gb277, 3, none⟩ = some (.int .i64 0) := (blk_cell BK277.out 3).trans rfl
             have hcz25_4 : w18.cell? ⟨gb277, 4, none⟩ = some (.int .i64 0) := (blk_cell BK277.out 4).trans rfl
             have hfz25_0 := blk_frozen BK277.out 0
             have hfz25_1 := blk_frozen BK277.out 1
             have hfz25_2 := blk_frozen BK277.out 2
             have hfz25_3 := blk_frozen BK277.out 3
             have hfz25_4 := blk_frozen BK277.out 4
             go_wp2
             go_meet
             case rel => exact ⟨_, (true), (by first | rfl | (simp; done) | (simp [*]; done)), H', ⟨by have := HK1.out; first | omega | exact Nat.le_refl _⟩, ⟨by (with_reducible repeat (first | apply Kd.R_alloc | apply Kd.R_drewN | apply Kd.R_drew)); exact Kd.R_mono (Kd.R_far (p := ⟨gb277, 4, none⟩) (Kd.R_far (p := ⟨gb277, 3, none⟩) (Kd.R_far (p := ⟨gb277, 2, none⟩) (Kd.R_far (p := ⟨gb277, 1, none⟩) (Kd.R_far (p := ⟨gb277, 0, none⟩) (Kd.R_mono HO_37.out (fun k_ hk => (⟨hk, hk.2⟩ : _ ∧ k_ ≠ gb277))) (fun _ hk => hk.2) (.int .i64 ((rd_T38 t270 x39_1).f0))) (fun _ hk => hk.2) (.int .i64 ((rd_T38 t270 x39_1).f1))) (fun _ hk => hk.2) (.string ((rd_T38 t270 x39_1).f2))) (fun _ hk => hk.2) (.int .i64 ((rd_T38 t270 x39_1).f3))) (fun _ hk => hk.2) (.int .i64 ((rd_T38 t270 x39_1).f4))) (fun _ hk => hk.1.2)⟩, ⟨by (with_reducible repeat (first | refine blk_drewN ?_ _ | refine blk_drew ?_ | refine blk_alloc ?_ _)); refine blk_put (cs := #[.int .i64 ((rd_T38 t270 x39_1).f0), .int .i64 ((rd_T38 t270 x39_1).f1), .string ((rd_T38 t270 x39_1).f2), .int .i64 ((rd_T38 t270 x39_1).f3), .int .i64 0]) ?_ 4 _ rfl; (with_reducible repeat (first | refine blk_drewN ?_ _ | refine blk_drew ?_ | refine blk_alloc ?_ _)); refine blk_put (cs := #[.int .i64 ((rd_T38 t270 x39_1).f0), .int .i64 ((rd_T38 t270 x39_1).f1), .string ((rd_T38 t270 x39_1).f2), .int .i64 0, .int .i64 0]) ?_ 3 _ rfl; (with_reducible repeat (first | refine blk_drewN ?_ _ | refine blk_drew ?_ | refine blk_alloc ?_ _)); refine blk_put (cs := #[.int .i64 ((rd_T38 t270 x39_1).f0), .int .i64 ((rd_T38 t270 x39_1).f1), .string (⟨#[]⟩ : ByteArray), .int .i64 0, .int .i64 0]) ?_ 2 _ rfl; (with_reducible repeat (first | refine blk_drewN ?_ _ | refine blk_drew ?_ | refine blk_alloc ?_ _)); refine blk_put (cs := #[.int .i64 ((rd_T38 t270 x39_1).f0), .int .i64 0, .string (⟨#[]⟩ : ByteArray), .int .i64 0, .int .i64 0]) ?_ 1 _ rfl; (with_reducible repeat (first | refine blk_drewN ?_ _ | refine blk_drew ?_ | refine blk_alloc ?_ _)); refine blk_put (cs := #[.int .i64 0, .int .i64 0, .string (⟨#[]⟩ : ByteArray), .int .i64 0, .int .i64 0]) ?_ 0 _ rfl; (with_reducible repeat (first | refine blk_drewN ?_ _ | refine blk_drew ?_ | refine blk_alloc ?_ _)); exact BK277.out⟩, ⟨by repeat (first | (with_reducible first | exact HB.out | apply below_alloc | apply pw_below_drewN | apply below_drew1 | refine below_set ?_ GE277.out) | exact HB.out)⟩⟩
            ·rw [if_neg c24] at H
             have c24b0 : decide ((a0.size : Int) < ((rd_T38 t270 x39_1).f4)) = false := decide_eq_false c24
             clear c24
             by_cases c26 : 0 ≤ x6_1
             ·rw [if_pos c26] at H
              have c26b0 := eq_true c26
              have c26b1 : decide (0 ≤ x6_1) = true := decide_eq_true c26
              clear c26
              by_cases c27 : x6_1 ≤ ((rd_T38 t270 x39_1).f3)
              ·rw [if_pos c27] at H
               have c27b0 := eq_true c27
               have c27b1 : decide (x6_1 ≤ ((rd_T38 t270 x39_1).f3)) = true := decide_eq_true c27
               clear c27
               by_cases c28 : ((rd_T38 t270 x39_1).f3) ≤ (a0.size : Int)
               ·rw [if_pos c28] at H
                have c28b0 := eq_true c28
                have c28b1 : decide (((rd_T38 t270 x39_1).f3) ≤ (a0.size : Int)) = true := decide_eq_true c28
                clear c28
                replace H := Option.bind_eq_some_iff.mp H
                obtain ⟨t278, A290, H⟩ := H
                replace H : (madrigallaw01_LexPlaces.j1 k1 a0 x39_1 t270 (t270.length : Int) x39_1 (!t278) ((rd_T38 t270 x39_1).f0) ((rd_T38 t270 x39_1).f1) ((rd_T38 t270 x39_1).f2) ((rd_T38 t270 x39_1).f3) ((rd_T38 t270 x39_1).f4)) = some r := H
                have A29 := Aside0.mk A290
                clear A290
                have H' := Aside0.mk H
                clear H
                have hcz30_0 : w18.cell? ⟨gb277, 0, none⟩ = some (.int .i64 0) := (blk_cell BK277.out 0).trans rfl
                have hcz30_1 : w18.cell? ⟨gb277, 1, none⟩ = some (.int .i64 0) := (blk_cell BK277.out 1).trans rfl
                have hcz30_2 : w18.cell? ⟨gb277, 2, none⟩ = some (.string (⟨#[]⟩ : ByteArray)) := (blk_cell BK277.out 2).trans rfl
                have hcz30_3 : w18.cell? ⟨gb277, 3, none⟩ = some (.int .i64 0) := (blk_cell BK277.out 3).trans rfl
                have hcz30_4 : w18.cell? ⟨gb277, 4, none⟩ = some (.int .i64 0) := (blk_cell BK277.out 4).trans rfl
                have hfz30_0 := blk_frozen BK277.out 0
                have hfz30_1 := blk_frozen BK277.out 1
                have hfz30_2 := blk_frozen BK277.out 2
                have hfz30_3 := blk_frozen BK277.out 3
                have hfz30_4 := blk_frozen BK277.out 4
                go_wp2_with (first | (go_at_call 28; (with_reducible refine (madrigallaw01_filling.calls k1 (a0.extract (x6_1 : Int).toNat (((rd_T38 t270 x39_1).f3) : Int).toNat) t278 _ A29.out).mono ?_); rintro e w31 ⟨rfl, hb⟩; have n0_ := Aside0.mk (Kd.R_below (by (with_reducible repeat (first | apply Kd.R_alloc | apply Kd.R_drewN | apply Kd.R_drew)); exact (Kd.R_mono (Kd.R_far (p := ⟨gb277, 4, none⟩) (Kd.R_far (p := ⟨gb277, 3, none⟩) (Kd.R_far (p := ⟨gb277, 2, none⟩) (Kd.R_far (p := ⟨gb277, 1, none⟩) (Kd.R_far (p := ⟨gb277, 0, none⟩) (Kd.R_mono HO_37.out (fun k_ hk => (⟨hk, hk.2⟩ : _ ∧ k_ ≠ gb277))) (fun _ hk => hk.2) (.int .i64 ((rd_T38 t270 x39_1).f0))) (fun _ hk => hk.2) (.int .i64 ((rd_T38 t270 x39_1).f1))) (fun _ hk => hk.2) (.string ((rd_T38 t270 x39_1).f2))) (fun _ hk => hk.2) (.int .i64 ((rd_T38 t270 x39_1).f3))) (fun _ hk => hk.2) (.int .i64 ((rd_T38 t270 x39_1).f4))) (fun _ h_ => h_.1))) hb); have n1_ := Aside0.mk (blk_below (g := gb277) (o := .cells #[.int .i64 ((rd_T38 t270 x39_1).f0), .int .i64 ((rd_T38 t270 x39_1).f1), .string ((rd_T38 t270 x39_1).f2), .int .i64 ((rd_T38 t270 x39_1).f3), .int .i64 ((rd_T38 t270 x39_1).f4)] 38 (0, 0)) (by (with_reducible repeat (first | refine blk_drewN ?_ _ | refine blk_drew ?_ | refine blk_alloc ?_ _)); refine blk_put (cs := #[.int .i64 ((rd_T38 t270 x39_1).f0), .int .i64 ((rd_T38 t270 x39_1).f1), .string ((rd_T38 t270 x39_1).f2), .int .i64 ((rd_T38 t270 x39_1).f3), .int .i64 0]) ?_ 4 _ rfl; (with_reducible repeat (first | refine blk_drewN ?_ _ | refine blk_drew ?_ | refine blk_alloc ?_ _)); refine blk_put (cs := #[.int .i64 ((rd_T38 t270 x39_1).f0), .int .i64 ((rd_T38 t270 x39_1).f1), .string ((rd_T38 t270 x39_1).f2), .int .i64 0, .int .i64 0]) ?_ 3 _ rfl; (with_reducible repeat (first | refine blk_drewN ?_ _ | refine blk_drew ?_ | refine blk_alloc ?_ _)); refine blk_put (cs := #[.int .i64 ((rd_T38 t270 x39_1).f0), .int .i64 ((rd_T38 t270 x39_1).f1), .string (⟨#[]⟩ : ByteArray), .int .i64 0, .int .i64 0]) ?_ 2 _ rfl; (with_reducible repeat (first | refine blk_drewN ?_ _ | refine blk_drew ?_ | refine blk_alloc ?_ _)); refine blk_put (cs := #[.int .i64 ((rd_T38 t270 x39_1).f0), .int .i64 0, .string (⟨#[]⟩ : ByteArray), .int .i64 0, .int .i64 0]) ?_ 1 _ rfl; (with_reducible repeat (first | refine blk_drewN ?_ _ | refine blk_drew ?_ | refine blk_alloc ?_ _)); refine blk_put (cs := #[.int .i64 0, .int .i64 0, .string (⟨#[]⟩ : ByteArray), .int .i64 0, .int .i64 0]) ?_ 0 _ rfl; (with_reducible repeat (first | refine blk_drewN ?_ _ | refine blk_drew ?_ | refine blk_alloc ?_ _)); exact BK277.out) hb); have n2_ := Aside0.mk (below_step (by repeat (first | (with_reducible first | exact HB.out | apply below_alloc | apply pw_below_drewN | apply below_drew1 | refine below_set ?_ GE277.out) | exact HB.out)) hb); clear HO_37; clear BK277; clear HB; have HO_37 := n0_; have BK277 := n1_; have HB := n2_; clear n0_ n1_ n2_; (try clear hb); (try clear hb2); (try clear hk); (try clear hi)))
                go_meet
                case rel => exact ⟨_, (!t278), (by first | rfl | (simp; done) | (simp [*]; done)), H', ⟨by have := HK1.out; first | omega | exact Nat.le_refl _⟩, ⟨by (with_reducible repeat (first | apply Kd.R_alloc | apply Kd.R_drewN | apply Kd.R_drew)); exact Kd.R_mono HO_37.out (fun _ hk => hk.2)⟩, ⟨by (with_reducible repeat (first | refine blk_drewN ?_ _ | refine blk_drew ?_ | refine blk_alloc ?_ _)); exact BK277.out⟩, ⟨by repeat (first | (with_reducible first | exact HB.out | apply below_alloc | apply pw_below_drewN | apply below_drew1 | refine below_set ?_ GE277.out) | exact HB.out)⟩⟩
               ·rw [if_neg c28] at H
                exact absurd H (by simp)
              ·rw [if_neg c27] at H
               exact absurd H (by simp)
             ·rw [if_neg c26] at H
              exact absurd H (by simp)
         case rest =>
          clear HC17
          try clear c1
          try clear c2
          try clear p2
          try clear q2
          try clear hx2
          try clear c3
          try clear c5
          try clear c6
          try clear c7
          try clear c7b0
          try clear c7b1
          try clear c11
          try clear c12
          try clear c13
          try clear c14
          try clear c14b0
          try clear c15
          try clear c15b0
          try clear c16
          try clear c16b0
          try clear c20
          try clear c20b0
          try clear c22
          try clear c22b0
          try clear c24
          try clear c24b0
          try clear c26
          try clear c26b0
          try clear c26b1
          try clear c27
          try clear c27b0
          try clear c27b1
          try clear p27
          try clear q27
          try clear hx27
          try clear c28
          try clear c28b0
          try clear c28b1
          try clear hcz19_0
          try clear hcz19_1
          try clear hcz19_2
          try clear hcz19_3
          try clear hcz19_4
          try clear hcz21_0
          try clear hcz21_1
          try clear hcz21_2
          try clear hcz21_3
          try clear hcz21_4
          try clear hcz23_0
          try clear hcz23_1
          try clear hcz23_2
          try clear hcz23_3
          try clear hcz23_4
          try clear hcz25_0
          try clear hcz25_1
          try clear hcz25_2
          try clear hcz25_3
          try clear hcz25_4
          try clear hcz30_0
          try clear hcz30_1
          try clear hcz30_2
          try clear hcz30_3
          try clear hcz30_4
          try clear hfz19_0
          try clear hfz19_1
          try clear hfz19_2
          try clear hfz19_3
          try clear hfz19_4
          try clear hfz21_0
          try clear hfz21_1
          try clear hfz21_2
          try clear hfz21_3
          try clear hfz21_4
          try clear hfz23_0
          try clear hfz23_1
          try clear hfz23_2
          try clear hfz23_3
          try clear hfz23_4
          try clear hfz25_0
          try clear hfz25_1
          try clear hfz25_2
          try clear hfz25_3
          try clear hfz25_4
          try clear hfz30_0
          try clear hfz30_1
          try clear hfz30_2
          try clear hfz30_3
          try clear hfz30_4
          try clear hx276_0
          try clear hx276_1
          try clear hx276_2
          try clear hx276_3
          try clear hx276_4
          try clear p2
          try clear p276
          try clear q276
          obtain ⟨kq, x70_16, rfl, HA, HJ16, HO_37, BK277, HB⟩ := hcut
          cases kq with
          | zero => exact absurd HA.out (by simp [madrigallaw01_LexPlaces.j1])
          | succ kj16 =>
           have H := HA.out
           clear HA
           simp only [madrigallaw01_LexPlaces.j1] at H
           by_cases c32 : x70_16 = true
           ·subst c32
            have H1 : (some false) = some r := by rw [if_pos rfl] at H; exact H
            clear H
            have H := H1
            clear H1
            obtain rfl := Option.some.inj H
            go_wp2
            go_ret
            exact ⟨by first | rfl | (simp [errW_none, errW_some] <;> rfl) | (simp [*, errW_none, errW_some] <;> rfl), by repeat (first | (with_reducible first | exact HB.out | apply below_alloc | apply pw_below_drewN | apply below_drew1 | refine below_set ?_ GE277.out) | exact HB.out)⟩
           ·replace c32 := Bool.eq_false_iff.mpr c32
            subst c32
            have H1 : (if x39_1 < 50 then (if 0 ≤ ((rd_T38 t270 x39_1).f3) then (if ((rd_T38 t270 x39_1).f3) ≤ ((rd_T38 t270 x39_1).f4) then (if ((rd_T38 t270 x39_1).f4) ≤ (a0.size : Int) then ((lex_Kind.f (a0.extract (((rd_T38 t270 x39_1).f3) : Int).toNat (((rd_T38 t270 x39_1).f4) : Int).toNat)).bind fun t279 => (madrigallaw01_LexPlaces.j2 kj16 a0 t270 (t270.length : Int) x39_1 (t279 != ((rd_T38 t270 x39_1).f0)) ((rd_T38 t270 x39_1).f0) ((rd_T38 t270 x39_1).f1) ((rd_T38 t270 x39_1).f2) ((rd_T38 t270 x39_1).f3) ((rd_T38 t270 x39_1).f4))) else (none)) else (none)) else (none)) else (madrigallaw01_LexPlaces.j2 kj16 a0 t270 (t270.length : Int) x39_1 false ((rd_T38 t270 x39_1).f0) ((rd_T38 t270 x39_1).f1) ((rd_T38 t270 x39_1).f2) ((rd_T38 t270 x39_1).f3) ((rd_T38 t270 x39_1).f4))) = some r := by rw [if_neg (show ¬ (false = true) by decide)] at H; exact H
            clear H
            have H := H1
            clear H1
            have HC33 := Aside0.mk H
            clear H
            go_upto_region 14 with (fail)
            go_cut [84] (fun v84 wc => ∃ (kq : Nat) (x84_32 : Bool), v84 = .bool x84_32 ∧ Aside0 (madrigallaw01_LexPlaces.j2 kq a0 t270 (t270.length : Int) x39_1 x84_32 ((rd_T38 t270 x39_1).f0) ((rd_T38 t270 x39_1).f1) ((rd_T38 t270 x39_1).f2) ((rd_T38 t270 x39_1).f3) ((rd_T38 t270 x39_1).f4) = some r) ∧ Aside0 (kq ≤ kj16) ∧ Aside0 (Kd.R k38 38 wc w.heap.size (fun k_ => k_ ≠ gb277) (.slice (some ad276) t270.length co13) t270) ∧ Aside0 (wc.heap[gb277]? = some (.cells #[.int .i64 ((rd_T38 t270 x39_1).f0), .int .i64 ((rd_T38 t270 x39_1).f1), .string ((rd_T38 t270 x39_1).f2), .int .i64 ((rd_T38 t270 x39_1).f3), .int .i64 ((rd_T38 t270 x39_1).f4)] 38 (0, 0))) ∧ Aside0 (Below w.heap.size w wc))
            case first =>
             have H := HC33.out
             clear HC33
             by_cases c34 : x39_1 < 50
             ·rw [if_pos c34] at H
              have c34b0 : decide (x39_1 < 50) = true := decide_eq_true c34
              clear c34
              (first | rw [c34b0] | (simp only [i64_w, i32_w]; rw [c34b0]) | skip)
              by_cases c35 : 0 ≤ ((rd_T38 t270 x39_1).f3)
              ·rw [if_pos c35] at H
               have c35b0 := eq_true c35
               have c35b1 : decide (0 ≤ ((rd_T38 t270 x39_1).f3)) = true := decide_eq_true c35
               clear c35
               by_cases c36 : ((rd_T38 t270 x39_1).f3) ≤ ((rd_T38 t270 x39_1).f4)
               ·rw [if_pos c36] at H
                have c36b0 := eq_true c36
                have c36b1 : decide (((rd_T38 t270 x39_1).f3) ≤ ((rd_T38 t270 x39_1).f4)) = true := decide_eq_true c36
                clear c36
                by_cases c37 : ((rd_T38 t270 x39_1).f4) ≤ (a0.size : Int)
                ·rw [if_pos c37] at H
                 have c37b0 := eq_true c37
                 have c37b1 : decide (((rd_T38 t270 x39_1).f4) ≤ (a0.size : Int)) = true := decide_eq_true c37
                 clear c37
                 replace H := Option.bind_eq_some_iff.mp H
                 obtain ⟨t279, A380, H⟩ := H
                 replace H : (madrigallaw01_LexPlaces.j2 kj16 a0 t270 (t270.length : Int) x39_1 (t279 != ((rd_T38 t270 x39_1).f0)) ((rd_T38 t270 x39_1).f0) ((rd_T38 t270 x39_1).f1) ((rd_T38 t270 x39_1).f2) ((rd_T38 t270 x39_1).f3) ((rd_T38 t270 x39_1).f4)) = some r := H
                 have A38 := Aside0.mk A380
                 clear A380
                 have H' := Aside0.mk H
                 clear H
                 try go_wp2
                 replace HO_37 := Aside0.mk (Kd.R_drew HO_37.out)
                 replace BK277 := Aside0.mk (blk_drew BK277.out)
                 replace HB := Aside0.mk (below_drew1 HB.out)
                 refine start_ (n := 14) (S := fun w' => w'.cell? ⟨gb277, 0, none⟩ = some (.int .i64 ((rd_T38 t270 x39_1).f0)) ∧ w'.cell? ⟨gb277, 1, none⟩ = some (.int .i64 ((rd_T38 t270 x39_1).f1)) ∧ w'.cell? ⟨gb277, 2, none⟩ = some (.string ((rd_T38 t270 x39_1).f2)) ∧ w'.cell? ⟨gb277, 3, none⟩ = some (.int .i64 ((rd_T38 t270 x39_1).f3)) ∧ w'.cell? ⟨gb277, 4, none⟩ = some (.int .i64 ((rd_T38 t270 x39_1).f4))) (ds := []) #[false, false, false, false, false, false, false, false, false, false, false, false, false, false] (by kernel_rfl) rfl rfl ⟨(blk_cell BK277.out 0).trans rfl, (blk_cell BK277.out 1).trans rfl, (blk_cell BK277.out 2).trans rfl, (blk_cell BK277.out 3).trans rfl, (blk_cell BK277.out 4).trans rfl⟩ (fun hHeld => ?_); refine with_tabW madrigallaw01_LexPlaces.tab14 madrigallaw01_LexPlaces.bits14 (fun HT_ HW_ => ?_)
                 generalize wc.drew = w39 at HO_37 BK277 HB hHeld ⊢
                 refine pure_ (i := 0) (N := some 71) (v := ?_) (a' := ?_) #[true, false, false, false, false, false, false, false, false, false, false, false, false, false] rfl rfl (any_of HT_.out (by kernel_rfl)) (fun _ _ _ h => h) (Or.inl ⟨by rfl, ?_⟩) ?_ ?_
                 rotate_left
                 ·intro w'
                  go_simp
                  with_reducible rfl
                 rotate_left
                 ·simp only [qa_]
                  rfl
                 refine pure_ (i := 1) (N := some 72) (v := ?_) (a' := ?_) #[true, true, false, false, false, false, false, false, false, false, false, false, false, false] rfl rfl (any_of HT_.out (by kernel_rfl)) (fun _ _ _ h => h) (Or.inl ⟨by rfl, ?_⟩) ?_ ?_
                 rotate_left
                 ·intro w'
                  go_simp
                  with_reducible rfl
                 rotate_left
                 ·simp only [qa_]
                  rfl
                 refine pure_ (i := 2) (N := some 73) (v := ?_) (a' := ?_) #[true, true, true, false, false, false, false, false, false, false, false, false, false, false] rfl rfl (any_of HT_.out (by kernel_rfl)) (fun _ _ _ h => h) (Or.inl ⟨by rfl, ?_⟩) ?_ ?_
                 rotate_left
                 ·intro w'
                  go_simp
                  with_reducible rfl
                 rotate_left
                 ·simp only [qa_]
                  rfl
                 refine pure_ (i := 3) (N := some 74) (v := ?_) (a' := ?_) #[true, true, true, true, false, false, false, false, false, false, false, false, false, false] rfl rfl (any_of HT_.out (by kernel_rfl)) (fun _ _ _ h => h) (Or.inl ⟨by rfl, ?_⟩) ?_ ?_
                 rotate_left
                 ·intro w'
                  go_simp
                  with_reducible rfl
                 rotate_left
                 ·simp only [qa_]
                  rfl
                 refine pure_ (i := 4) (N := some 75) (v := ?_) (a' := ?_) #[true, true, true, true, true, false, false, false, false, false, false, false, false, false] rfl rfl (any_of HT_.out (by kernel_rfl)) (fun _ _ _ h => h) (Or.inl ⟨by rfl, ?_⟩) ?_ ?_
                 rotate_left
                 ·intro w'
                  go_simp
                  with_reducible rfl
                 rotate_left
                 ·simp only [qa_]
                  rfl
                 refine pure_ (i := 6) (N := some 77) (v := ?_) (a' := ?_) #[true, true, true, true, true, false, true, false, false, false, false, false, false, false] rfl rfl (any_of HT_.out (by kernel_rfl)) (fun _ _ _ h => h) (Or.inl ⟨by rfl, ?_⟩) ?_ ?_
                 rotate_left
                 ·intro w'
                  go_simp
                  with_reducible rfl
                 rotate_left
                 ·simp only [qa_]
                  rfl
                 refine pure_ (i := 10) (N := some 81) (v := ?_) (a' := ?_) #[true, true, true, true, true, false, true, false, false, false, true, false, false, false] rfl rfl (any_of HT_.out (by kernel_rfl)) (fun _ _ _ h => h) (Or.inl ⟨by rfl, ?_⟩) ?_ ?_
                 rotate_left
                 ·intro w'
                  go_simp
                  with_reducible rfl
                 rotate_left
                 ·simp only [qa_]
                  rfl
                 refine take_ (i := 5) (N := some 76) (v := ?_) (a' := ?_) #[true, true, true, true, true, true, true, false, false, false, true, false, false, false] rfl rfl (take_ofW HT_.out HW_.out (by kernel_rfl)) (fun _ _ _ h => h) (Or.inl ⟨by rfl, ?_⟩) hHeld ?_ ?_
                 rotate_left
                 ·rintro w' ⟨s0, s1, s2, s3, s4⟩
                  go_simp
                  with_reducible rfl
                 rotate_left
                 ·simp only [qa_]
                  rfl
                 refine take_ (i := 7) (N := some 78) (v := ?_) (a' := ?_) #[true, true, true, true, true, true, true, true, false, false, true, false, false, false] rfl rfl (take_ofW HT_.out HW_.out (by kernel_rfl)) (fun _ _ _ h => h) (Or.inl ⟨by rfl, ?_⟩) hHeld ?_ ?_
                 rotate_left
                 ·rintro w' ⟨s0, s1, s2, s3, s4⟩
                  go_simp
                  with_reducible rfl
                 rotate_left
                 ·simp only [qa_]
                  rfl
                 refine pure_ (i := 8) (N := some 79) (v := ?_) (a' := ?_) #[true, true, true, true, true, true, true, true, true, false, true, false, false, false] rfl rfl (any_of HT_.out (by kernel_rfl)) (fun _ _ _ h => h) (Or.inl ⟨by rfl, ?_⟩) ?_ ?_
                 rotate_left
                 ·intro w'
                  go_simp
                  with_reducible rfl
                 rotate_left
                 ·simp only [qa_]
                  rfl
                 refine take_ (i := 11) (N := some 82) (v := ?_) (a' := ?_) #[true, true, true, true, true, true, true, true, true, false, true, true, false, false] rfl rfl (take_ofW HT_.out HW_.out (by kernel_rfl)) (fun _ _ _ h => h) (Or.inl ⟨by rfl, ?_⟩) hHeld ?_ ?_
                 rotate_left
                 ·rintro w' ⟨s0, s1, s2, s3, s4⟩
                  go_simp
                  with_reducible rfl
                 rotate_left
                 ·simp only [qa_]
                  rfl
                 refine one_ (i := 9) (N := some 80) #[true, true, true, true, true, true, true, true, true, true, true, true, false, false] rfl rfl (one_of HT_.out (by kernel_rfl)) (by decide) (fun K hK => ?_)
                 refine goes_ Tryz.func16 (by kernel_rfl) rfl #[.string (a0.extract (((rd_T38 t270 x39_1).f3) : Int).toNat (((rd_T38 t270 x39_1).f4) : Int).toNat)] (by rfl) rfl rfl (by (try simp only [List.map_toArray, List.map_cons, List.map_nil]); first | done | rfl | (simp only [List.length_drop, List.length_take]; rfl)) ?_
                 with_reducible refine (lex_Kind.calls (a0.extract (((rd_T38 t270 x39_1).f3) : Int).toNat (((rd_T38 t270 x39_1).f4) : Int).toNat) t279 _ A38.out ?side1).mono ?_
                 (case side1 => exact GL.below HG.out (by repeat (first | (with_reducible first | exact HB.out | apply below_alloc | apply pw_below_drewN | apply below_drew1 | refine below_set ?_ GE277.out) | exact HB.out)))
                 rintro e w40 ⟨rfl, hb⟩
                 refine ⟨_, rfl, ?_⟩
                 replace HO_37 := Aside0.mk (Kd.R_below (by (with_reducible repeat (first | apply Kd.R_alloc | apply Kd.R_drewN | apply Kd.R_drew)); exact HO_37.out) hb)
                 replace BK277 := Aside0.mk (blk_below (g := gb277) (o := .cells #[.int .i64 ((rd_T38 t270 x39_1).f0), .int .i64 ((rd_T38 t270 x39_1).f1), .string ((rd_T38 t270 x39_1).f2), .int .i64 ((rd_T38 t270 x39_1).f3), .int .i64 ((rd_T38 t270 x39_1).f4)] 38 (0, 0)) (by (with_reducible repeat (first | refine blk_drewN ?_ _ | refine blk_drew ?_ | refine blk_alloc ?_ _)); exact BK277.out) hb)
                 replace HB := Aside0.mk (below_step (by repeat (first | (with_reducible first | exact HB.out | apply below_alloc | apply pw_below_drewN | apply below_drew1 | refine below_set ?_ GE277.out) | exact HB.out)) hb)
                 (try clear hb); (try clear hb2); (try clear hk); (try clear hi)
                 refine hK.out _ _ ⟨(blk_cell BK277.out 0).trans rfl, (blk_cell BK277.out 1).trans rfl, (blk_cell BK277.out 2).trans rfl, (blk_cell BK277.out 3).trans rfl, (blk_cell BK277.out 4).trans rfl⟩ (fun hHeld => ?_)
                 clear hK K
                 refine norm_ (a' := ?_) ?_ ?_
                 rotate_left
                 ·show Act.put _ (some 80) _ = _
                  simp only [qa_]
                  rfl
                 refine pure_ (i := 12) (N := some 83) (v := ?_) (a' := ?_) #[true, true, true, true, true, true, true, true, true, true, true, true, true, false] rfl rfl (any_of HT_.out (by kernel_rfl)) (fun _ _ _ h => h) (Or.inl ⟨by rfl, ?_⟩) ?_ ?_
                 rotate_left
                 ·intro w'
                  go_simp
                  with_reducible rfl
                 rotate_left
                 ·simp only [qa_]
                  rfl
                 refine pure_ (i := 13) (N := some 84) (v := ?_) (a' := ?_) #[true, true, true, true, true, true, true, true, true, true, true, true, true, true] rfl rfl (any_of HT_.out (by kernel_rfl)) (fun _ _ _ h => h) (Or.inl ⟨by rfl, ?_⟩) ?_ ?_
                 rotate_left
                 ·intro w'
                  go_simp
                  with_reducible rfl
                 rotate_left
                 ·simp only [qa_]
                  rfl
                 refine done_ (done_of HT_.out (by kernel_rfl)) ?_
                 try go_wp2
                 go_meet
                 case rel => exact ⟨_, ((t279 != ((rd_T38 t270 x39_1).f0))), (by first | rfl | (simp; done) | (simp [*]; done)), H', ⟨by have := HK1.out; have := HJ16.out; first | omega | exact Nat.le_refl _⟩, ⟨by (with_reducible repeat (first | apply Kd.R_alloc | apply Kd.R_drewN | apply Kd.R_drew)); exact HO_37.out⟩, ⟨by (with_reducible repeat (first | refine blk_drewN ?_ _ | refine blk_drew ?_ | refine blk_alloc ?_ _)); exact BK277.out⟩, ⟨by repeat (first | (with_reducible first | exact HB.out | apply below_alloc | apply pw_below_drewN | apply below_drew1 | refine below_set ?_ GE277.out) | exact HB.out)⟩⟩
                ·rw [if_neg c37] at H
                 exact absurd H (by simp)
               ·rw [if_neg c36] at H
                exact absurd H (by simp)
              ·rw [if_neg c35] at H
               exact absurd H (by simp)
             ·rw [if_neg c34] at H
              have c34b0 : decide (x39_1 < 50) = false := decide_eq_false c34
              clear c34
              (first | rw [c34b0] | (simp only [i64_w, i32_w]; rw [c34b0]) | skip)
              have H' := Aside0.mk H
              clear H
              try go_wp2
              replace HO_37 := Aside0.mk (Kd.R_drew HO_37.out)
              replace BK277 := Aside0.mk (blk_drew BK277.out)
              replace HB := Aside0.mk (below_drew1 HB.out)
              refine start_ (n := 14) (S := fun w' => True) (ds := []) #[false, false, false, false, false, false, false, false, false, false, false, false, false, false] (by kernel_rfl) rfl rfl trivial (fun hHeld => ?_); refine with_tabW madrigallaw01_LexPlaces.tab14 madrigallaw01_LexPlaces.bits14 (fun HT_ HW_ => ?_)
              generalize wc.drew = w41 at HO_37 BK277 HB hHeld ⊢
              refine pure_ (i := 0) (N := some 71) (v := ?_) (a' := ?_) #[true, false, false, false, false, false, false, false, false, false, false, false, false, false] rfl rfl (any_of HT_.out (by kernel_rfl)) (fun _ _ _ h => h) (Or.inl ⟨by rfl, ?_⟩) ?_ ?_
              rotate_left
              ·intro w'
               go_simp
               with_reducible rfl
              rotate_left
              ·simp only [qa_]
               rfl
              refine pure_ (i := 1) (N := some 72) (v := ?_) (a' := ?_) #[true, true, false, false, false, false, false, false, false, false, false, false, false, false] rfl rfl (any_of HT_.out (by kernel_rfl)) (fun _ _ _ h => h) (Or.inl ⟨by rfl, ?_⟩) ?_ ?_
              rotate_left
              ·intro w'
               go_simp
               with_reducible rfl
              rotate_left
              ·simp only [qa_]
               rfl
              refine pure_ (i := 2) (N := some 73) (v := ?_) (a' := ?_) #[true, true, true, false, false, false, false, false, false, false, false, false, false, false] rfl rfl (any_of HT_.out (by kernel_rfl)) (fun _ _ _ h => h) (Or.inl ⟨by rfl, ?_⟩) ?_ ?_
              rotate_left
              ·intro w'
               go_simp
               with_reducible rfl
              rotate_left
              ·simp only [qa_]
               rfl
              refine pure_ (i := 3) (N := some 74) (v := undef) (a' := ?_) #[true, true, true, true, false, false, false, false, false, false, false, false, false, false] rfl rfl (any_of HT_.out (by kernel_rfl)) (fun _ _ _ h => h) (Or.inr ⟨by rfl, rfl⟩) ?_ ?_
              rotate_left
              ·simp only [qa_]
               rfl
              refine pure_ (i := 4) (N := some 75) (v := undef) (a' := ?_) #[true, true, true, true, true, false, false, false, false, false, false, false, false, false] rfl rfl (any_of HT_.out (by kernel_rfl)) (fun _ _ _ h => h) (Or.inr ⟨by rfl, rfl⟩) ?_ ?_
              rotate_left
              ·simp only [qa_]
               rfl
              refine pure_ (i := 5) (N := some 76) (v := undef) (a' := ?_) #[true, true, true, true, true, true, false, false, false, false, false, false, false, false] rfl rfl (any_of HT_.out (by kernel_rfl)) (fun _ _ _ h => h) (Or.inr ⟨by rfl, rfl⟩) ?_ ?_
              rotate_left
              ·simp only [qa_]
               rfl
              refine pure_ (i := 6) (N := some 77) (v := undef) (a' := ?_) #[true, true, true, true, true, true, true, false, false, false, false, false, false, false] rfl rfl (any_of HT_.out (by kernel_rfl)) (fun _ _ _ h => h) (Or.inr ⟨by rfl, rfl⟩) ?_ ?_
              rotate_left
              ·simp only [qa_]
               rfl
              refine pure_ (i := 7) (N := some 78) (v := undef) (a' := ?_) #[true, true, true, true, true, true, true, true, false, false, false, false, false, false] rfl rfl (any_of HT_.out (by kernel_rfl)) (fun _ _ _ h => h) (Or.inr ⟨by rfl, rfl⟩) ?_ ?_
              rotate_left
              ·simp only [qa_]
               rfl
              refine pure_ (i := 8) (N := some 79) (v := undef) (a' := ?_) #[true, true, true, true, true, true, true, true, true, false, false, false, false, false] rfl rfl (any_of HT_.out (by kernel_rfl)) (fun _ _ _ h => h) (Or.inr ⟨by rfl, rfl⟩) ?_ ?_
              rotate_left
              ·simp only [qa_]
               rfl
              refine pure_ (i := 9) (N := some 80) (v := undef) (a' := ?_) #[true, true, true, true, true, true, true, true, true, true, false, false, false, false] rfl rfl (any_of HT_.out (by kernel_rfl)) (fun _ _ _ h => h) (Or.inr ⟨by rfl, rfl⟩) ?_ ?_
              rotate_left
              ·simp only [qa_]
               rfl
              refine pure_ (i := 10) (N := some 81) (v := undef) (a' := ?_) #[true, true, true, true, true, true, true, true, true, true, true, false, false, false] rfl rfl (any_of HT_.out (by kernel_rfl)) (fun _ _ _ h => h) (Or.inr ⟨by rfl, rfl⟩) ?_ ?_
              rotate_left
              ·simp only [qa_]
               rfl
              refine pure_ (i := 11) (N := some 82) (v := undef) (a' := ?_) #[true, true, true, true, true, true, true, true, true, true, true, true, false, false] rfl rfl (any_of HT_.out (by kernel_rfl)) (fun _ _ _ h => h) (Or.inr ⟨by rfl, rfl⟩) ?_ ?_
              rotate_left
              ·simp only [qa_]
               rfl
              refine pure_ (i := 12) (N := some 83) (v := undef) (a' := ?_) #[true, true, true, true, true, true, true, true, true, true, true, true, true, false] rfl rfl (any_of HT_.out (by kernel_rfl)) (fun _ _ _ h => h) (Or.inr ⟨by rfl, rfl⟩) ?_ ?_
              rotate_left
              ·simp only [qa_]
               rfl
              refine pure_ (i := 13) (N := some 84) (v := ?_) (a' := ?_) #[true, true, true, true, true, true, true, true, true, true, true, true, true, true] rfl rfl (any_of HT_.out (by kernel_rfl)) (fun _ _ _ h => h) (Or.inl ⟨by rfl, ?_⟩) ?_ ?_
              rotate_left
              ·intro w'
               go_simp
               with_reducible rfl
              rotate_left
              ·simp only [qa_]
               rfl
              refine done_ (done_of HT_.out (by kernel_rfl)) ?_
              try go_wp2
              go_meet
              case rel => exact ⟨_, (false), (by first | rfl | (simp; done) | (simp [*]; done)), H', ⟨by have := HK1.out; have := HJ16.out; first | omega | exact Nat.le_refl _⟩, ⟨by (with_reducible repeat (first | apply Kd.R_alloc | apply Kd.R_drewN | apply Kd.R_drew)); exact HO_37.out⟩, ⟨by (with_reducible repeat (first | refine blk_drewN ?_ _ | refine blk_drew ?_ | refine blk_alloc ?_ _)); exact BK277.out⟩, ⟨by repeat (first | (with_reducible first | exact HB.out | apply below_alloc | apply pw_below_drewN | apply below_drew1 | refine below_set ?_ GE277.out) | exact HB.out)⟩⟩
            case rest =>
             clear HC33
             try clear c1
             try clear c2
             try clear p2
             try clear q2
             try clear hx2
             try clear c3
             try clear c5
             try clear c6
             try clear c7
             try clear c7b0
             try clear c7b1
             try clear c11
             try clear c12
             try clear c13
             try clear c14
             try clear c14b0
             try clear c15
             try clear c15b0
             try clear c16
             try clear c16b0
             try clear c20
             try clear c20b0
             try clear c22
             try clear c22b0
             try clear c24
             try clear c24b0
             try clear c26
             try clear c26b0
             try clear c26b1
             try clear c27
             try clear c27b0
             try clear c27b1
             try clear p27
             try clear q27
             try clear hx27
             try clear c28
             try clear c28b0
             try clear c28b1
             try clear c32
             try clear c34
             try clear c34b0
             try clear c35
             try clear c35b0
             try clear c35b1
             try clear c36
             try clear c36b0
             try clear c36b1
             try clear c37
             try clear c37b0
             try clear c37b1
             try clear hcz19_0
             try clear hcz19_1
             try clear hcz19_2
             try clear hcz19_3
             try clear hcz19_4
             try clear hcz21_0
             try clear hcz21_1
             try clear hcz21_2
             try clear hcz21_3
             try clear hcz21_4
             try clear hcz23_0
             try clear hcz23_1
             try clear hcz23_2
             try clear hcz23_3
             try clear hcz23_4
             try clear hcz25_0
             try clear hcz25_1
             try clear hcz25_2
             try clear hcz25_3
             try clear hcz25_4
             try clear hcz30_0
             try clear hcz30_1
             try clear hcz30_2
             try clear hcz30_3
             try clear hcz30_4
             try clear hfz19_0
             try clear hfz19_1
             try clear hfz19_2
             try clear hfz19_3
             try clear hfz19_4
             try clear hfz21_0
             try clear hfz21_1
             try clear hfz21_2
             try clear hfz21_3
             try clear hfz21_4
             try clear hfz23_0
             try clear hfz23_1
             try clear hfz23_2
             try clear hfz23_3
             try clear hfz23_4
             try clear hfz25_0
             try clear hfz25_1
             try clear hfz25_2
             try clear hfz25_3
             try clear hfz25_4
             try clear hfz30_0
             try clear hfz30_1
             try clear hfz30_2
             try clear hfz30_3
             try clear hfz30_4
             try clear hx276_0
             try clear hx276_1
             try clear hx276_2
             try clear hx276_3
             try clear hx276_4
             try clear p2
             try clear p27
             try clear p276
             try clear q2
             try clear q27
             try clear q276
             obtain ⟨kq, x84_32, rfl, HA, HJ32, HO_37, BK277, HB⟩ := hcut
             cases kq with
             | zero => exact absurd HA.out (by simp [madrigallaw01_LexPlaces.j2])
             | succ kj32 =>
              have H := HA.out
              clear HA
              simp only [madrigallaw01_LexPlaces.j2] at H
              by_cases c42 : x84_32 = true
              ·subst c42
               have H1 : (some false) = some r := by rw [if_pos rfl] at H; exact H
               clear H
               have H := H1
               clear H1
               obtain rfl := Option.some.inj H
               go_wp2
               go_ret
               exact ⟨by first | rfl | (simp [errW_none, errW_some] <;> rfl) | (simp [*, errW_none, errW_some] <;> rfl), by repeat (first | (with_reducible first | exact HB.out | apply below_alloc | apply pw_below_drewN | apply below_drew1 | refine below_set ?_ GE277.out) | exact HB.out)⟩
              ·replace c42 := Bool.eq_false_iff.mpr c42
               subst c42
               have H1 : (if ((rd_T38 t270 x39_1).f0) = 3 then (madrigallaw01_LexPlaces.l0 kj32 a0 ((rd_T38 t270 x39_1).f4) t270 (t270.length : Int) (wrap64 (x39_1 + 1))) else (if 0 ≤ ((rd_T38 t270 x39_1).f3) then (if ((rd_T38 t270 x39_1).f3) ≤ ((rd_T38 t270 x39_1).f4) then (if ((rd_T38 t270 x39_1).f4) ≤ (a0.size : Int) then (if ((rd_T38 t270 x39_1).f2).toList = (a0.extract (((rd_T38 t270 x39_1).f3) : Int).toNat (((rd_T38 t270 x39_1).f4) : Int).toNat).toList then (madrigallaw01_LexPlaces.l0 kj32 a0 ((rd_T38 t270 x39_1).f4) t270 (t270.length : Int) (wrap64 (x39_1 + 1))) else (some false)) else (none)) else (none)) else (none))) = some r := by rw [if_neg (show ¬ (false = true) by decide)] at H; exact H
               clear H
               have H := H1
               clear H1
               by_cases c43 : ((rd_T38 t270 x39_1).f0) = 3
               ·rw [if_pos c43] at H
                have c43b0 : (((rd_T38 t270 x39_1).f0) == 3) = true := beq_iff_eq.mpr c43
                have c43b1 : (((rd_T38 t270 x39_1).f0) != 3) = false := bne_eq_false_iff_eq.mpr c43
                clear c43
                have H' := Aside0.mk H
                clear H
                try go_wp2
                replace HO_37 := Aside0.mk (Kd.R_drew HO_37.out)
                replace BK277 := Aside0.mk (blk_drew BK277.out)
                replace HB := Aside0.mk (below_drew1 HB.out)
                refine start_ (n := 14) (S := fun w' => w'.cell? ⟨gb277, 0, none⟩ = some (.int .i64 ((rd_T38 t270 x39_1).f0)) ∧ w'.cell? ⟨gb277, 1, none⟩ = some (.int .i64 ((rd_T38 t270 x39_1).f1)) ∧ w'.cell? ⟨gb277, 2, none⟩ = some (.string ((rd_T38 t270 x39_1).f2)) ∧ w'.cell? ⟨gb277, 3, none⟩ = some (.int .i64 ((rd_T38 t270 x39_1).f3)) ∧ w'.cell? ⟨gb277, 4, none⟩ = some (.int .i64 ((rd_T38 t270 x39_1).f4))) (ds := []) #[false, false, false, false, false, false, false, false, false, false, false, false, false, false] (by kernel_rfl) rfl rfl ⟨(blk_cell BK277.out 0).trans rfl, (blk_cell BK277.out 1).trans rfl, (blk_cell BK277.out 2).trans rfl, (blk_cell BK277.out 3).trans rfl, (blk_cell BK277.out 4).trans rfl⟩ (fun hHeld => ?_); refine with_tabW madrigallaw01_LexPlaces.tab16 madrigallaw01_LexPlaces.bits16 (fun HT_ HW_ => ?_)
                generalize wc.drew = w44 at HO_37 BK277 HB hHeld ⊢
                refine pure_ (i := 0) (N := some 85) (v := ?_) (a' := ?_) #[true, false, false, false, false, false, false, false, false, false, false, false, false, false] rfl rfl (any_of HT_.out (by kernel_rfl)) (fun _ _ _ h => h) (Or.inl ⟨by rfl, ?_⟩) ?_ ?_
                rotate_left
                ·intro w'
                 go_simp
                 with_reducible rfl
                rotate_left
                ·simp only [qa_]
                 rfl
                refine take_ (i := 1) (N := some 86) (v := ?_) (a' := ?_) #[true, true, false, false, false, false, false, false, false, false, false, false, false, false] rfl rfl (take_ofW HT_.out HW_.out (by kernel_rfl)) (fun _ _ _ h => h) (Or.inl ⟨by rfl, ?_⟩) hHeld ?_ ?_
                rotate_left
                ·rintro w' ⟨s0, s1, s2, s3, s4⟩
                 go_simp
                 with_reducible rfl
                rotate_left
                ·simp only [qa_]
                 rfl
                refine pure_ (i := 2) (N := some 87) (v := ?_) (a' := ?_) #[true, true, true, false, false, false, false, false, false, false, false, false, false, false] rfl rfl (any_of HT_.out (by kernel_rfl)) (fun _ _ _ h => h) (Or.inl ⟨by rfl, ?_⟩) ?_ ?_
                rotate_left
                ·intro w'
                 go_simp
                 with_reducible rfl
                rotate_left
                ·simp only [qa_]
                 rfl
                refine pure_ (i := 3) (N := some 88) (v := ?_) (a' := ?_) #[true, true, true, true, false, false, false, false, false, false, false, false, false, false] rfl rfl (any_of HT_.out (by kernel_rfl)) (fun _ _ _ h => h) (Or.inl ⟨by rfl, ?_⟩) ?_ ?_
                rotate_left
                ·intro w'
                 go_simp
                 with_reducible rfl
                rotate_left
                ·simp only [qa_]
                 rfl
                refine pure_ (i := 4) (N := some 89) (v := undef) (a' := ?_) #[true, true, true, true, true, false, false, false, false, false, false, false, false, false] rfl rfl (any_of HT_.out (by kernel_rfl)) (fun _ _ _ h => h) (Or.inr ⟨by rfl, rfl⟩) ?_ ?_
                rotate_left
                ·simp only [qa_]
                 rfl
                refine pure_ (i := 5) (N := some 90) (v := undef) (a' := ?_) #[true, true, true, true, true, true, false, false, false, false, false, false, false, false] rfl rfl (any_of HT_.out (by kernel_rfl)) (fun _ _ _ h => h) (Or.inr ⟨by rfl, rfl⟩) ?_ ?_
                rotate_left
                ·simp only [qa_]
                 rfl
                refine pure_ (i := 6) (N := some 91) (v := undef) (a' := ?_) #[true, true, true, true, true, true, true, false, false, false, false, false, false, false] rfl rfl (any_of HT_.out (by kernel_rfl)) (fun _ _ _ h => h) (Or.inr ⟨by rfl, rfl⟩) ?_ ?_
                rotate_left
                ·simp only [qa_]
                 rfl
                refine pure_ (i := 7) (N := some 92) (v := undef) (a' := ?_) #[true, true, true, true, true, true, true, true, false, false, false, false, false, false] rfl rfl (any_of HT_.out (by kernel_rfl)) (fun _ _ _ h => h) (Or.inr ⟨by rfl, rfl⟩) ?_ ?_
                rotate_left
                ·simp only [qa_]
                 rfl
                refine pure_ (i := 8) (N := some 93) (v := undef) (a' := ?_) #[true, true, true, true, true, true, true, true, true, false, false, false, false, false] rfl rfl (any_of HT_.out (by kernel_rfl)) (fun _ _ _ h => h) (Or.inr ⟨by rfl, rfl⟩) ?_ ?_
                rotate_left
                ·simp only [qa_]
                 rfl
                refine pure_ (i := 9) (N := some 94) (v := undef) (a' := ?_) #[true, true, true, true, true, true, true, true, true, true, false, false, false, false] rfl rfl (any_of HT_.out (by kernel_rfl)) (fun _ _ _ h => h) (Or.inr ⟨by rfl, rfl⟩) ?_ ?_
                rotate_left
                ·simp only [qa_]
                 rfl
                refine pure_ (i := 10) (N := some 95) (v := undef) (a' := ?_) #[true, true, true, true, true, true, true, true, true, true, true, false, false, false] rfl rfl (any_of HT_.out (by kernel_rfl)) (fun _ _ _ h => h) (Or.inr ⟨by rfl, rfl⟩) ?_ ?_
                rotate_left
                ·simp only [qa_]
                 rfl
                refine pure_ (i := 11) (N := some 96) (v := undef) (a' := ?_) #[true, true, true, true, true, true, true, true, true, true, true, true, false, false] rfl rfl (any_of HT_.out (by kernel_rfl)) (fun _ _ _ h => h) (Or.inr ⟨by rfl, rfl⟩) ?_ ?_
                rotate_left
                ·simp only [qa_]
                 rfl
                refine pure_ (i := 12) (N := some 97) (v := undef) (a' := ?_) #[true, true, true, true, true, true, true, true, true, true, true, true, true, false] rfl rfl (any_of HT_.out (by kernel_rfl)) (fun _ _ _ h => h) (Or.inr ⟨by rfl, rfl⟩) ?_ ?_
                rotate_left
                ·simp only [qa_]
                 rfl
                refine pure_ (i := 13) (N := some 98) (v := ?_) (a' := ?_) #[true, true, true, true, true, true, true, true, true, true, true, true, true, true] rfl rfl (any_of HT_.out (by kernel_rfl)) (fun _ _ _ h => h) (Or.inl ⟨by rfl, ?_⟩) ?_ ?_
                rotate_left
                ·intro w'
                 go_simp
                 with_reducible rfl
                rotate_left
                ·simp only [qa_]
                 rfl
                refine done_ (done_of HT_.out (by kernel_rfl)) ?_
                have hcz45_0 : w44.cell? ⟨gb277, 0, none⟩ = some (.int .i64 ((rd_T38 t270 x39_1).f0)) := (blk_cell BK277.out 0).trans rfl
                have hcz45_1 : w44.cell? ⟨gb277, 1, none⟩ = some (.int .i64 ((rd_T38 t270 x39_1).f1)) := (blk_cell BK277.out 1).trans rfl
                have hcz45_2 : w44.cell? ⟨gb277, 2, none⟩ = some (.string ((rd_T38 t270 x39_1).f2)) := (blk_cell BK277.out 2).trans rfl
                have hcz45_3 : w44.cell? ⟨gb277, 3, none⟩ = some (.int .i64 ((rd_T38 t270 x39_1).f3)) := (blk_cell BK277.out 3).trans rfl
                have hcz45_4 : w44.cell? ⟨gb277, 4, none⟩ = some (.int .i64 ((rd_T38 t270 x39_1).f4)) := (blk_cell BK277.out 4).trans rfl
                have hfz45_0 := blk_frozen BK277.out 0
                have hfz45_1 := blk_frozen BK277.out 1
                have hfz45_2 := blk_frozen BK277.out 2
                have hfz45_3 := blk_frozen BK277.out 3
                have hfz45_4 := blk_frozen BK277.out 4
                try go_wp2
                go_roundg kj32
                case measure => have := HK1.out; have := HJ16.out; have := HJ32.out; omega
                case rel => exact ⟨(((rd_T38 t270 x39_1).f4)), (wrap64 (x39_1 + 1)), (by first | rfl | (simp; done) | (simp [*]; done)), (by first | rfl | (simp; done) | (simp [*]; done)), H', ⟨by have := HK1.out; have := HJ16.out; have := HJ32.out; omega⟩, ⟨by (with_reducible repeat (first | apply Kd.R_alloc | apply Kd.R_drewN | apply Kd.R_drew)); exact Kd.R_mono HO_37.out (fun _ hk => trivial)⟩, ⟨by repeat (first | (with_reducible first | exact HB.out | apply below_alloc | apply pw_below_drewN | apply below_drew1 | refine below_set ?_ GE277.out) | exact HB.out)⟩⟩
               ·rw [if_neg c43] at H
                have c43b0 : (((rd_T38 t270 x39_1).f0) == 3) = false := beq_eq_false_iff_ne.mpr c43
                have c43b1 : (((rd_T38 t270 x39_1).f0) != 3) = true := bne_iff_ne.mpr c43
                by_cases c46 : 0 ≤ ((rd_T38 t270 x39_1).f3)
                ·rw [if_pos c46] at H
                 have c46b0 := eq_true c46
                 have c46b1 : decide (0 ≤ ((rd_T38 t270 x39_1).f3)) = true := decide_eq_true c46
                 clear c46
                 by_cases c47 : ((rd_T38 t270 x39_1).f3) ≤ ((rd_T38 t270 x39_1).f4)
                 ·rw [if_pos c47] at H
                  have c47b0 := eq_true c47
                  have c47b1 : decide (((rd_T38 t270 x39_1).f3) ≤ ((rd_T38 t270 x39_1).f4)) = true := decide_eq_true c47
                  clear c47
                  by_cases c48 : ((rd_T38 t270 x39_1).f4) ≤ (a0.size : Int)
                  ·rw [if_pos c48] at H
                   have c48b0 := eq_true c48
                   have c48b1 : decide (((rd_T38 t270 x39_1).f4) ≤ (a0.size : Int)) = true := decide_eq_true c48
                   clear c48
                   by_cases c49 : ((rd_T38 t270 x39_1).f2).toList = (a0.extract (((rd_T38 t270 x39_1).f3) : Int).toNat (((rd_T38 t270 x39_1).f4) : Int).toNat).toList
                   ·rw [if_pos c49] at H
                    have c49b0 : (((rd_T38 t270 x39_1).f2).toList == (a0.extract (((rd_T38 t270 x39_1).f3) : Int).toNat (((rd_T38 t270 x39_1).f4) : Int).toNat).toList) = true := beq_iff_eq.mpr c49
                    have c49b1 : (((rd_T38 t270 x39_1).f2).toList != (a0.extract (((rd_T38 t270 x39_1).f3) : Int).toNat (((rd_T38 t270 x39_1).f4) : Int).toNat).toList) = false := bne_eq_false_iff_eq.mpr c49
                    clear c49
                    have H' := Aside0.mk H
                    clear H
                    try go_wp2
                    replace HO_37 := Aside0.mk (Kd.R_drew HO_37.out)
                    replace BK277 := Aside0.mk (blk_drew BK277.out)
                    replace HB := Aside0.mk (below_drew1 HB.out)
                    refine start_ (n := 14) (S := fun w' => w'.cell? ⟨gb277, 0, none⟩ = some (.int .i64 ((rd_T38 t270 x39_1).f0)) ∧ w'.cell? ⟨gb277, 1, none⟩ = some (.int .i64 ((rd_T38 t270 x39_1).f1)) ∧ w'.cell? ⟨gb277, 2, none⟩ = some (.string ((rd_T38 t270 x39_1).f2)) ∧ w'.cell? ⟨gb277, 3, none⟩ = some (.int .i64 ((rd_T38 t270 x39_1).f3)) ∧ w'.cell? ⟨gb277, 4, none⟩ = some (.int .i64 ((rd_T38 t270 x39_1).f4))) (ds := []) #[false, false, false, false, false, false, false, false, false, false, false, false, false, false] (by kernel_rfl) rfl rfl ⟨(blk_cell BK277.out 0).trans rfl, (blk_cell BK277.out 1).trans rfl, (blk_cell BK277.out 2).trans rfl, (blk_cell BK277.out 3).trans rfl, (blk_cell BK277.out 4).trans rfl⟩ (fun hHeld => ?_); refine with_tabW madrigallaw01_LexPlaces.tab16 madrigallaw01_LexPlaces.bits16 (fun HT_ HW_ => ?_)
                    generalize wc.drew = w50 at HO_37 BK277 HB hHeld ⊢
                    refine pure_ (i := 0) (N := some 85) (v := ?_) (a' := ?_) #[true, false, false, false, false, false, false, false, false, false, false, false, false, false] rfl rfl (any_of HT_.out (by kernel_rfl)) (fun _ _ _ h => h) (Or.inl ⟨by rfl, ?_⟩) ?_ ?_
                    rotate_left
                    ·intro w'
                     go_simp
                     with_reducible rfl
                    rotate_left
                    ·simp only [qa_]
                     rfl
                    refine take_ (i := 1) (N := some 86) (v := ?_) (a' := ?_) #[true, true, false, false, false, false, false, false, false, false, false, false, false, false] rfl rfl (take_ofW HT_.out HW_.out (by kernel_rfl)) (fun _ _ _ h => h) (Or.inl ⟨by rfl, ?_⟩) hHeld ?_ ?_
                    rotate_left
                    ·rintro w' ⟨s0, s1, s2, s3, s4⟩
                     go_simp
                     with_reducible rfl
                    rotate_left
                    ·simp only [qa_]
                     rfl
                    refine pure_ (i := 2) (N := some 87) (v := ?_) (a' := ?_) #[true, true, true, false, false, false, false, false, false, false, false, false, false, false] rfl rfl (any_of HT_.out (by kernel_rfl)) (fun _ _ _ h => h) (Or.inl ⟨by rfl, ?_⟩) ?_ ?_
                    rotate_left
                    ·intro w'
                     go_simp
                     with_reducible rfl
                    rotate_left
                    ·simp only [qa_]
                     rfl
                    refine pure_ (i := 3) (N := some 88) (v := ?_) (a' := ?_) #[true, true, true, true, false, false, false, false, false, false, false, false, false, false] rfl rfl (any_of HT_.out (by kernel_rfl)) (fun _ _ _ h => h) (Or.inl ⟨by rfl, ?_⟩) ?_ ?_
                    rotate_left
                    ·intro w'
                     go_simp
                     with_reducible rfl
                    rotate_left
                    ·simp only [qa_]
                     rfl
                    refine pure_ (i := 4) (N := some 89) (v := ?_) (a' := ?_) #[true, true, true, true, true, false, false, false, false, false, false, false, false, false] rfl rfl (any_of HT_.out (by kernel_rfl)) (fun _ _ _ h => h) (Or.inl ⟨by rfl, ?_⟩) ?_ ?_
                    rotate_left
                    ·intro w'
                     go_simp
                     with_reducible rfl
                    rotate_left
                    ·simp only [qa_]
                     rfl
                    refine pure_ (i := 6) (N := some 91) (v := ?_) (a' := ?_) #[true, true, true, true, true, false, true, false, false, false, false, false, false, false] rfl rfl (any_of HT_.out (by kernel_rfl)) (fun _ _ _ h => h) (Or.inl ⟨by rfl, ?_⟩) ?_ ?_
                    rotate_left
                    ·intro w'
                     go_simp
                     with_reducible rfl
                    rotate_left
                    ·simp only [qa_]
                     rfl
                    refine pure_ (i := 7) (N := some 92) (v := ?_) (a' := ?_) #[true, true, true, true, true, false, true, true, false, false, false, false, false, false] rfl rfl (any_of HT_.out (by kernel_rfl)) (fun _ _ _ h => h) (Or.inl ⟨by rfl, ?_⟩) ?_ ?_
                    rotate_left
                    ·intro w'
                     go_simp
                     with_reducible rfl
                    rotate_left
                    ·simp only [qa_]
                     rfl
                    refine pure_ (i := 9) (N := some 94) (v := ?_) (a' := ?_) #[true, true, true, true, true, false, true, true, false, true, false, false, false, false] rfl rfl (any_of HT_.out (by kernel_rfl)) (fun _ _ _ h => h) (Or.inl ⟨by rfl, ?_⟩) ?_ ?_
                    rotate_left
                    ·intro w'
                     go_simp
                     with_reducible rfl
                    rotate_left
                    ·simp only [qa_]
                     rfl
                    refine take_ (i := 5) (N := some 90) (v := ?_) (a' := ?_) #[true, true, true, true, true, true, true, true, false, true, false, false, false, false] rfl rfl (take_ofW HT_.out HW_.out (by kernel_rfl)) (fun _ _ _ h => h) (Or.inl ⟨by rfl, ?_⟩) hHeld ?_ ?_
                    rotate_left
                    ·rintro w' ⟨s0, s1, s2, s3, s4⟩
                     go_simp
                     with_reducible rfl
                    rotate_left
                    ·simp only [qa_]
                     rfl
                    refine take_ (i := 8) (N := some 93) (v := ?_) (a' := ?_) #[true, true, true, true, true, true, true, true, true, true, false, false, false, false] rfl rfl (take_ofW HT_.out HW_.out (by kernel_rfl)) (fun _ _ _ h => h) (Or.inl ⟨by rfl, ?_⟩) hHeld ?_ ?_
                    rotate_left
                    ·rintro w' ⟨s0, s1, s2, s3, s4⟩
                     go_simp
                     with_reducible rfl
                    rotate_left
                    ·simp only [qa_]
                     rfl
                    refine take_ (i := 10) (N := some 95) (v := ?_) (a' := ?_) #[true, true, true, true, true, true, true, true, true, true, true, false, false, false] rfl rfl (take_ofW HT_.out HW_.out (by kernel_rfl)) (fun _ _ _ h => h) (Or.inl ⟨by rfl, ?_⟩) hHeld ?_ ?_
                    rotate_left
                    ·rintro w' ⟨s0, s1, s2, s3, s4⟩
                     go_simp
                     with_reducible rfl
                    rotate_left
                    ·simp only [qa_]
                     rfl
                    refine pure_ (i := 11) (N := some 96) (v := ?_) (a' := ?_) #[true, true, true, true, true, true, true, true, true, true, true, true, false, false] rfl rfl (any_of HT_.out (by kernel_rfl)) (fun _ _ _ h => h) (Or.inl ⟨by rfl, ?_⟩) ?_ ?_
                    rotate_left
                    ·intro w'
                     go_simp
                     with_reducible rfl
                    rotate_left
                    ·simp only [qa_]
                     rfl
                    refine pure_ (i := 12) (N := some 97) (v := ?_) (a' := ?_) #[true, true, true, true, true, true, true, true, true, true, true, true, true, false] rfl rfl (any_of HT_.out (by kernel_rfl)) (fun _ _ _ h => h) (Or.inl ⟨by rfl, ?_⟩) ?_ ?_
                    rotate_left
                    ·intro w'
                     go_simp
                     with_reducible rfl
                    rotate_left
                    ·simp only [qa_]
                     rfl
                    refine pure_ (i := 13) (N := some 98) (v := ?_) (a' := ?_) #[true, true, true, true, true, true, true, true, true, true, true, true, true, true] rfl rfl (any_of HT_.out (by kernel_rfl)) (fun _ _ _ h => h) (Or.inl ⟨by rfl, ?_⟩) ?_ ?_
                    rotate_left
                    ·intro w'
                     go_simp
                     with_reducible rfl
                    rotate_left
                    ·simp only [qa_]
                     rfl
                    refine done_ (done_of HT_.out (by kernel_rfl)) ?_
                    have hcz51_0 : w50.cell? ⟨gb277, 0, none⟩ = some (.int .i64 ((rd_T38 t270 x39_1).f0)) := (blk_cell BK277.out 0).trans rfl
                    have hcz51_1 : w50.cell? ⟨gb277, 1, none⟩ = some (.int .i64 ((rd_T38 t270 x39_1).f1)) := (blk_cell BK277.out 1).trans rfl
                    have hcz51_2 : w50.cell? ⟨gb277, 2, none⟩ = some (.string ((rd_T38 t270 x39_1).f2)) := (blk_cell BK277.out 2).trans rfl
                    have hcz51_3 : w50.cell? ⟨gb277, 3, none⟩ = some (.int .i64 ((rd_T38 t270 x39_1).f3)) := (blk_cell BK277.out 3).trans rfl
                    have hcz51_4 : w50.cell? ⟨gb277, 4, none⟩ = some (.int .i64 ((rd_T38 t270 x39_1).f4)) := (blk_cell BK277.out 4).trans rfl
                    have hfz51_0 := blk_frozen BK277.out 0
                    have hfz51_1 := blk_frozen BK277.out 1
                    have hfz51_2 := blk_frozen BK277.out 2
                    have hfz51_3 := blk_frozen BK277.out 3
                    have hfz51_4 := blk_frozen BK277.out 4
                    try go_wp2
                    go_roundg kj32
                    case measure => have := HK1.out; have := HJ16.out; have := HJ32.out; omega
                    case rel => exact ⟨(((rd_T38 t270 x39_1).f4)), (wrap64 (x39_1 + 1)), (by first | rfl | (simp; done) | (simp [*]; done)), (by first | rfl | (simp; done) | (simp [*]; done)), H', ⟨by have := HK1.out; have := HJ16.out; have := HJ32.out; omega⟩, ⟨by (with_reducible repeat (first | apply Kd.R_alloc | apply Kd.R_drewN | apply Kd.R_drew)); exact Kd.R_mono HO_37.out (fun _ hk => trivial)⟩, ⟨by repeat (first | (with_reducible first | exact HB.out | apply below_alloc | apply pw_below_drewN | apply below_drew1 | refine below_set ?_ GE277.out) | exact HB.out)⟩⟩
                   ·rw [if_neg c49] at H
                    have c49b0 : (((rd_T38 t270 x39_1).f2).toList == (a0.extract (((rd_T38 t270 x39_1).f3) : Int).toNat (((rd_T38 t270 x39_1).f4) : Int).toNat).toList) = false := beq_eq_false_iff_ne.mpr c49
                    have c49b1 : (((rd_T38 t270 x39_1).f2).toList != (a0.extract (((rd_T38 t270 x39_1).f3) : Int).toNat (((rd_T38 t270 x39_1).f4) : Int).toNat).toList) = true := bne_iff_ne.mpr c49
                    obtain rfl := Option.some.inj H
                    try go_wp2
                    replace HO_37 := Aside0.mk (Kd.R_drew HO_37.out)
                    replace BK277 := Aside0.mk (blk_drew BK277.out)
                    replace HB := Aside0.mk (below_drew1 HB.out)
                    refine start_ (n := 14) (S := fun w' => w'.cell? ⟨gb277, 0, none⟩ = some (.int .i64 ((rd_T38 t270 x39_1).f0)) ∧ w'.cell? ⟨gb277, 1, none⟩ = some (.int .i64 ((rd_T38 t270 x39_1).f1)) ∧ w'.cell? ⟨gb277, 2, none⟩ = some (.string ((rd_T38 t270 x39_1).f2)) ∧ w'.cell? ⟨gb277, 3, none⟩ = some (.int .i64 ((rd_T38 t270 x39_1).f3)) ∧ w'.cell? ⟨gb277, 4, none⟩ = some (.int .i64 ((rd_T38 t270 x39_1).f4))) (ds := []) #[false, false, false, false, false, false, false, false, false, false, false, false, false, false] (by kernel_rfl) rfl rfl ⟨(blk_cell BK277.out 0).trans rfl, (blk_cell BK277.out 1).trans rfl, (blk_cell BK277.out 2).trans rfl, (blk_cell BK277.out 3).trans rfl, (blk_cell BK277.out 4).trans rfl⟩ (fun hHeld => ?_); refine with_tabW madrigallaw01_LexPlaces.tab16 madrigallaw01_LexPlaces.bits16 (fun HT_ HW_ => ?_)
                    generalize wc.drew = w52 at HO_37 BK277 HB hHeld ⊢
                    refine pure_ (i := 0) (N := some 85) (v := ?_) (a' := ?_) #[true, false, false, false, false, false, false, false, false, false, false, false, false, false] rfl rfl (any_of HT_.out (by kernel_rfl)) (fun _ _ _ h => h) (Or.inl ⟨by rfl, ?_⟩) ?_ ?_
                    rotate_left
                    ·intro w'
                     go_simp
                     with_reducible rfl
                    rotate_left
                    ·simp only [qa_]
                     rfl
                    refine take_ (i := 1) (N := some 86) (v := ?_) (a' := ?_) #[true, true, false, false, false, false, false, false, false, false, false, false, false, false] rfl rfl (take_ofW HT_.out HW_.out (by kernel_rfl)) (fun _ _ _ h => h) (Or.inl ⟨by rfl, ?_⟩) hHeld ?_ ?_
                    rotate_left
                    ·rintro w' ⟨s0, s1, s2, s3, s4⟩
                     go_simp
                     with_reducible rfl
                    rotate_left
                    ·simp only [qa_]
                     rfl
                    refine pure_ (i := 2) (N := some 87) (v := ?_) (a' := ?_) #[true, true, true, false, false, false, false, false, false, false, false, false, false, false] rfl rfl (any_of HT_.out (by kernel_rfl)) (fun _ _ _ h => h) (Or.inl ⟨by rfl, ?_⟩) ?_ ?_
                    rotate_left
                    ·intro w'
                     go_simp
                     with_reducible rfl
                    rotate_left
                    ·simp only [qa_]
                     rfl
                    refine pure_ (i := 3) (N := some 88) (v := ?_) (a' := ?_) #[true, true, true, true, false, false, false, false, false, false, false, false, false, false] rfl rfl (any_of HT_.out (by kernel_rfl)) (fun _ _ _ h => h) (Or.inl ⟨by rfl, ?_⟩) ?_ ?_
                    rotate_left
                    ·intro w'
                     go_simp
                     with_reducible rfl
                    rotate_left
                    ·simp only [qa_]
                     rfl
                    refine pure_ (i := 4) (N := some 89) (v := ?_) (a' := ?_) #[true, true, true, true, true, false, false, false, false, false, false, false, false, false] rfl rfl (any_of HT_.out (by kernel_rfl)) (fun _ _ _ h => h) (Or.inl ⟨by rfl, ?_⟩) ?_ ?_
                    rotate_left
                    ·intro w'
                     go_simp
                     with_reducible rfl
                    rotate_left
                    ·simp only [qa_]
                     rfl
                    refine pure_ (i := 6) (N := some 91) (v := ?_) (a' := ?_) #[true, true, true, true, true, false, true, false, false, false, false, false, false, false] rfl rfl (any_of HT_.out (by kernel_rfl)) (fun _ _ _ h => h) (Or.inl ⟨by rfl, ?_⟩) ?_ ?_
                    rotate_left
                    ·intro w'
                     go_simp
                     with_reducible rfl
                    rotate_left
                    ·simp only [qa_]
                     rfl
                    refine pure_ (i := 7) (N := some 92) (v := ?_) (a' := ?_) #[true, true, true, true, true, false, true, true, false, false, false, false, false, false] rfl rfl (any_of HT_.out (by kernel_rfl)) (fun _ _ _ h => h) (Or.inl ⟨by rfl, ?_⟩) ?_ ?_
                    rotate_left
                    ·intro w'
                     go_simp
                     with_reducible rfl
                    rotate_left
                    ·simp only [qa_]
                     rfl
                    refine pure_ (i := 9) (N := some 94) (v := ?_) (a' := ?_) #[true, true, true, true, true, false, true, true, false, true, false, false, false, false] rfl rfl (any_of HT_.out (by kernel_rfl)) (fun _ _ _ h => h) (Or.inl ⟨by rfl, ?_⟩) ?_ ?_
                    rotate_left
                    ·intro w'
                     go_simp
                     with_reducible rfl
                    rotate_left
                    ·simp only [qa_]
                     rfl
                    refine take_ (i := 5) (N := some 90) (v := ?_) (a' := ?_) #[true, true, true, true, true, true, true, true, false, true, false, false, false, false] rfl rfl (take_ofW HT_.out HW_.out (by kernel_rfl)) (fun _ _ _ h => h) (Or.inl ⟨by rfl, ?_⟩) hHeld ?_ ?_
                    rotate_left
                    ·rintro w' ⟨s0, s1, s2, s3, s4⟩
                     go_simp
                     with_reducible rfl
                    rotate_left
                    ·simp only [qa_]
                     rfl
                    refine take_ (i := 8) (N := some 93) (v := ?_) (a' := ?_) #[true, true, true, true, true, true, true, true, true, true, false, false, false, false] rfl rfl (take_ofW HT_.out HW_.out (by kernel_rfl)) (fun _ _ _ h => h) (Or.inl ⟨by rfl, ?_⟩) hHeld ?_ ?_
                    rotate_left
                    ·rintro w' ⟨s0, s1, s2, s3, s4⟩
                     go_simp
                     with_reducible rfl
                    rotate_left
                    ·simp only [qa_]
                     rfl
                    refine take_ (i := 10) (N := some 95) (v := ?_) (a' := ?_) #[true, true, true, true, true, true, true, true, true, true, true, false, false, false] rfl rfl (take_ofW HT_.out HW_.out (by kernel_rfl)) (fun _ _ _ h => h) (Or.inl ⟨by rfl, ?_⟩) hHeld ?_ ?_
                    rotate_left
                    ·rintro w' ⟨s0, s1, s2, s3, s4⟩
                     go_simp
                     with_reducible rfl
                    rotate_left
                    ·simp only [qa_]
                     rfl
                    refine pure_ (i := 11) (N := some 96) (v := ?_) (a' := ?_) #[true, true, true, true, true, true, true, true, true, true, true, true, false, false] rfl rfl (any_of HT_.out (by kernel_rfl)) (fun _ _ _ h => h) (Or.inl ⟨by rfl, ?_⟩) ?_ ?_
                    rotate_left
                    ·intro w'
                     go_simp
                     with_reducible rfl
                    rotate_left
                    ·simp only [qa_]
                     rfl
                    refine pure_ (i := 12) (N := some 97) (v := ?_) (a' := ?_) #[true, true, true, true, true, true, true, true, true, true, true, true, true, false] rfl rfl (any_of HT_.out (by kernel_rfl)) (fun _ _ _ h => h) (Or.inl ⟨by rfl, ?_⟩) ?_ ?_
                    rotate_left
                    ·intro w'
                     go_simp
                     with_reducible rfl
                    rotate_left
                    ·simp only [qa_]
                     rfl
                    refine pure_ (i := 13) (N := some 98) (v := ?_) (a' := ?_) #[true, true, true, true, true, true, true, true, true, true, true, true, true, true] rfl rfl (any_of HT_.out (by kernel_rfl)) (fun _ _ _ h => h) (Or.inl ⟨by rfl, ?_⟩) ?_ ?_
                    rotate_left
                    ·intro w'
                     go_simp
                     with_reducible rfl
                    rotate_left
                    ·simp only [qa_]
                     rfl
                    refine done_ (done_of HT_.out (by kernel_rfl)) ?_
                    try go_wp2
                    go_ret
                    exact ⟨by first | rfl | (simp [errW_none, errW_some] <;> rfl) | (simp [*, errW_none, errW_some] <;> rfl), by repeat (first | (with_reducible first | exact HB.out | apply below_alloc | apply pw_below_drewN | apply below_drew1 | refine below_set ?_ GE277.out) | exact HB.out)⟩
                  ·rw [if_neg c48] at H
                   exact absurd H (by simp)
                 ·rw [if_neg c47] at H
                  exact absurd H (by simp)
                ·rw [if_neg c46] at H
                 exact absurd H (by simp)
        ·rw [if_neg c16] at H
         exact absurd H (by simp)
       ·rw [if_neg c15] at H
        exact absurd H (by simp)
      ·rw [if_neg c14] at H
       have c14b0 : decide (x39_1 < (t270.length : Int)) = false := decide_eq_false c14
       clear c14
       by_cases c53 : 0 ≤ x6_1
       ·rw [if_pos c53] at H
        have c53b0 := eq_true c53
        have c53b1 : decide (0 ≤ x6_1) = true := decide_eq_true c53
        clear c53
        by_cases c54 : x6_1 ≤ (a0.size : Int)
        ·rw [if_pos c54] at H
         have c54b0 := eq_true c54
         have c54b1 : decide (x6_1 ≤ (a0.size : Int)) = true := decide_eq_true c54
         clear c54
         replace H := Option.bind_eq_some_iff.mp H
         obtain ⟨t275, A550, H⟩ := H
         replace H : (some t275) = some r := H
         have A55 := Aside0.mk A550
         clear A550
         obtain rfl := Option.some.inj H
         go_wp2_with (first | ((with_reducible refine gate_callee (f := 28) rfl ?_); refine goesL_ (some 105) rfl rfl Tryz.func28 (by kernel_rfl) rfl #[.string (a0.extract (x6_1 : Int).toNat a0.size)] rfl (by (try simp only [List.map_toArray, List.map_cons, List.map_nil]); first | done | rfl | (simp only [List.length_drop, List.length_take]; rfl)) ?_; (with_reducible refine (madrigallaw01_filling.calls k1 (a0.extract (x6_1 : Int).toNat a0.size) t275 _ A55.out).mono ?_); rintro e w56 ⟨rfl, hb⟩; refine ⟨_, rfl, ?_⟩; have n0_ := Aside0.mk (Kd.R_below (by (with_reducible repeat (first | apply Kd.R_alloc | apply Kd.R_drewN | apply Kd.R_drew)); exact HO_37.out) hb); have n1_ := Aside0.mk (below_step (by repeat (first | (with_reducible first | exact HB.out | apply below_alloc | apply pw_below_drewN | apply below_drew1) | exact HB.out)) hb); clear HO_37; clear HB; have HO_37 := n0_; have HB := n1_; clear n0_ n1_; (try clear hb); (try clear hb2); (try clear hk); (try clear hi)))
         go_ret
         exact ⟨by first | rfl | (simp [errW_none, errW_some] <;> rfl) | (simp [*, errW_none, errW_some] <;> rfl), by repeat (first | (with_reducible first | exact HB.out | apply below_alloc | apply pw_below_drewN | apply below_drew1) | exact HB.out)⟩
        ·rw [if_neg c54] at H
         exact absurd H (by simp)
       ·rw [if_neg c53] at H
        exact absurd H (by simp)
   ·rw [if_neg c7] at H
    have c7b0 : (t272 == 0) = false := beq_eq_false_iff_ne.mpr c7
    have c7b1 : (t272 != 0) = true := bne_iff_ne.mpr c7
    by_cases c57 : (t270.length : Int) = 0
    ·rw [if_pos c57] at H
     have c57b0 : ((t270.length : Int) == 0) = true := beq_iff_eq.mpr c57
     have c57b1 : ((t270.length : Int) != 0) = false := bne_eq_false_iff_eq.mpr c57
     clear c57
     by_cases c58 : t271 ≥ 0
     ·rw [if_pos c58] at H
      have c58b0 : decide (0 ≤ t271) = true := decide_eq_true c58
      clear c58
      obtain ⟨ji59, hji59⟩ : ∃ j_ : Int, (mx (a0.size : Int) 1) = j_ := ⟨_, rfl⟩
      replace H : (some (decide (t271 < (ji59)))) = some r := by first | (rw [hji59] at H; exact H) | (simp only [hji59] at H ⊢; exact H)
      (try rw [hji59] at A2)
      (try rw [hji59] at A4)
      (try rw [hji59] at A6)
      (try (have hji59l : 1 ≤ ji59 := by (rw [← hji59]; unfold mx; (repeat' split) <;> omega)))
      (try (have hji59m : 0 ≤ ji59 := by omega))
      have hji59_ : (if (a0.size : Int) < 1 then 1 else (a0.size : Int)) = ji59 := hji59
      obtain rfl := Option.some.inj H
      go_enter Tryz.func6, Tryz.ntmps6
      go_wp2_with (first | ((with_reducible refine gate_callee (f := 11) rfl ?_); refine goesL_ (some 9) rfl rfl Tryz.func11 (by kernel_rfl) rfl #[] rfl (by (try simp only [List.map_toArray, List.map_cons, List.map_nil]); first | done | rfl | (simp only [List.length_drop, List.length_take]; rfl)) ?_; (with_reducible refine (madrigallaw01_sane.calls  true _ A2.out ?side1).mono ?_); (case side1 => exact GL.below HG.out (by repeat (first | (with_reducible first | exact HB.out | apply below_alloc | apply pw_below_drewN | apply below_drew1) | exact HB.out))); rintro e w60 ⟨rfl, hb⟩; refine ⟨_, rfl, ?_⟩; have n0_ := Aside0.mk (below_step (by repeat (first | (with_reducible first | exact HB.out | apply below_alloc | apply pw_below_drewN | apply below_drew1) | exact HB.out)) hb); clear HB; have HB := n0_; clear n0_; (try clear hb); (try clear hb2); (try clear hk); (try clear hi)) | ((with_reducible refine gate_dst (N := 12) rfl ?_); (try (refine gate_guard (by rfl) ?_; dsimp only)); refine Kd.R_lit Kd.string _ 9 ?hg (N := 12) ?hd (xs := ([a0] : List ByteArray)) (inner := [.string a0]) (ok := fun _ => True) (okp := fun _ => True) ?hr ?hp (fun _ hk => hk) trivial (Below.refl _ _) (Nat.le_refl _) (by simp) ?_; (case hd => rfl); (case hg => rfl); (case hr => first | (go_simp; done) | (go_simp; rfl)); (case hp => exact (Reps.one (show Kd.M Kd.string _ _ _ a0 [.string a0] from rfl) (Reps.none _ _))); intro v267 w61 ho62 hb hg_ hnew_; clear hg_ hnew_; (first | rw [← Ny266.out] at ho62 | (simp only [Int.reduceToNat] at ho62; rw [← Ny266.out] at ho62)); have n0_ := Aside0.mk (Kd.R_lower ho62 (below_size (by repeat (first | (with_reducible first | exact HB.out | apply below_alloc | apply pw_below_drewN | apply below_drew1) | exact HB.out)))); have n1_ := Aside0.mk (below_step (by repeat (first | (with_reducible first | exact HB.out | apply below_alloc | apply pw_below_drewN | apply below_drew1) | exact HB.out)) hb); clear HB; have HO268 := n0_; have HB := n1_; clear n0_ n1_; clear hb ho62; obtain ⟨Ao63, co63, eo63⟩ := Kd.R_slice HO268.out; subst eo63) | ((with_reducible refine gate_callee (f := 12) rfl ?_); refine goesL_ (some 13) rfl rfl Tryz.func12 (by kernel_rfl) rfl #[.slice Ao63 y266.length co63] rfl (by (try simp only [List.map_toArray, List.map_cons, List.map_nil]); first | done | rfl | (simp only [List.length_drop, List.length_take]; rfl)) ?_; (with_reducible refine (madrigallaw01_short.calls k _ _ y266 true _ ?side1 ?side2 A4.out).mono ?_); (case side1 => repeat (first | exact (Kd.R_reads' HO268.out).2.2 | (with_reducible refine Kd.C_alloc ?_ _) | (with_reducible refine Kd.C_drewN ?_ _) | (with_reducible refine Kd.C_drew ?_))); (case side2 => exact (Kd.R_reads' HO268.out).2.1); rintro e w' ⟨rfl, ⟨nd, rfl⟩⟩; refine ⟨_, rfl, ?_⟩) | ((with_reducible refine gate_callee (f := 13) rfl ?_); refine goesL_ (some 17) rfl rfl Tryz.func13 (by kernel_rfl) rfl #[.string a0] rfl (by (try simp only [List.map_toArray, List.map_cons, List.map_nil]); first | done | rfl | (simp only [List.length_drop, List.length_take]; rfl)) ?_; (with_reducible refine (lex_Tokens.calls a0 t270 t271 t272 _ A6.out ?side1).mono ?_); (case side1 => exact GL.below HG.out (by repeat (first | (with_reducible first | exact HB.out | apply below_alloc | apply pw_below_drewN | apply below_drew1) | exact HB.out))); rintro e w64 ⟨v273, rfl, ho0, hb⟩; refine ⟨_, rfl, ?_⟩; have n0_ := Aside0.mk (Kd.R_below (by (with_reducible repeat (first | apply Kd.R_alloc | apply Kd.R_drewN | apply Kd.R_drew)); exact HO268.out) hb); have n1_ := Aside0.mk (Kd.R_lower ho0 (below_size (by repeat (first | (with_reducible first | exact HB.out | apply below_alloc | apply pw_below_drewN | apply below_drew1) | exact HB.out)))); have n2_ := Aside0.mk (below_step (by repeat (first | (with_reducible first | exact HB.out | apply below_alloc | apply pw_below_drewN | apply below_drew1) | exact HB.out)) hb); clear HO268; clear HB; have HO268 := n0_; have HO274 := n1_; have HB := n2_; clear n0_ n1_ n2_; (try clear hb); (try clear hb2); (try clear hk); (try clear hi); (try clear ho0); obtain ⟨Ao65, co65, eo65⟩ := Kd.R_slice HO274.out; subst eo65))
      go_ret
      exact ⟨by first | rfl | (simp [errW_none, errW_some] <;> rfl) | (simp only [← hji59]; first | rfl | (simp [errW_none, errW_some] <;> rfl)) | (simp [*, errW_none, errW_some] <;> rfl), by repeat (first | (with_reducible first | exact HB.out | apply below_alloc | apply pw_below_drewN | apply below_drew1) | exact HB.out)⟩
     ·rw [if_neg c58] at H
      have c58b0 : decide (0 ≤ t271) = false := decide_eq_false c58
      clear c58
      obtain rfl := Option.some.inj H
      go_enter Tryz.func6, Tryz.ntmps6
      go_wp2_with (first | ((with_reducible refine gate_callee (f := 11) rfl ?_); refine goesL_ (some 9) rfl rfl Tryz.func11 (by kernel_rfl) rfl #[] rfl (by (try simp only [List.map_toArray, List.map_cons, List.map_nil]); first | done | rfl | (simp only [List.length_drop, List.length_take]; rfl)) ?_; (with_reducible refine (madrigallaw01_sane.calls  true _ A2.out ?side1).mono ?_); (case side1 => exact GL.below HG.out (by repeat (first | (with_reducible first | exact HB.out | apply below_alloc | apply pw_below_drewN | apply below_drew1) | exact HB.out))); rintro e w66 ⟨rfl, hb⟩; refine ⟨_, rfl, ?_⟩; have n0_ := Aside0.mk (below_step (by repeat (first | (with_reducible first | exact HB.out | apply below_alloc | apply pw_below_drewN | apply below_drew1) | exact HB.out)) hb); clear HB; have HB := n0_; clear n0_; (try clear hb); (try clear hb2); (try clear hk); (try clear hi)) | ((with_reducible refine gate_dst (N := 12) rfl ?_); (try (refine gate_guard (by rfl) ?_; dsimp only)); refine Kd.R_lit Kd.string _ 9 ?hg (N := 12) ?hd (xs := ([a0] : List ByteArray)) (inner := [.string a0]) (ok := fun _ => True) (okp := fun _ => True) ?hr ?hp (fun _ hk => hk) trivial (Below.refl _ _) (Nat.le_refl _) (by simp) ?_; (case hd => rfl); (case hg => rfl); (case hr => first | (go_simp; done) | (go_simp; rfl)); (case hp => exact (Reps.one (show Kd.M Kd.string _ _ _ a0 [.string a0] from rfl) (Reps.none _ _))); intro v267 w67 ho68 hb hg_ hnew_; clear hg_ hnew_; (first | rw [← Ny266.out] at ho68 | (simp only [Int.reduceToNat] at ho68; rw [← Ny266.out] at ho68)); have n0_ := Aside0.mk (Kd.R_lower ho68 (below_size (by repeat (first | (with_reducible first | exact HB.out | apply below_alloc | apply pw_below_drewN | apply below_drew1) | exact HB.out)))); have n1_ := Aside0.mk (below_step (by repeat (first | (with_reducible first | exact HB.out | apply below_alloc | apply pw_below_drewN | apply below_drew1) | exact HB.out)) hb); clear HB; have HO268 := n0_; have HB := n1_; clear n0_ n1_; clear hb ho68; obtain ⟨Ao69, co69, eo69⟩ := Kd.R_slice HO268.out; subst eo69) | ((with_reducible refine gate_callee (f := 12) rfl ?_); refine goesL_ (some 13) rfl rfl Tryz.func12 (by kernel_rfl) rfl #[.slice Ao69 y266.length co69] rfl (by (try simp only [List.map_toArray, List.map_cons, List.map_nil]); first | done | rfl | (simp only [List.length_drop, List.length_take]; rfl)) ?_; (with_reducible refine (madrigallaw01_short.calls k _ _ y266 true _ ?side1 ?side2 A4.out).mono ?_); (case side1 => repeat (first | exact (Kd.R_reads' HO268.out).2.2 | (with_reducible refine Kd.C_alloc ?_ _) | (with_reducible refine Kd.C_drewN ?_ _) | (with_reducible refine Kd.C_drew ?_))); (case side2 => exact (Kd.R_reads' HO268.out).2.1); rintro e w' ⟨rfl, ⟨nd, rfl⟩⟩; refine ⟨_, rfl, ?_⟩) | ((with_reducible refine gate_callee (f := 13) rfl ?_); refine goesL_ (some 17) rfl rfl Tryz.func13 (by kernel_rfl) rfl #[.string a0] rfl (by (try simp only [List.map_toArray, List.map_cons, List.map_nil]); first | done | rfl | (simp only [List.length_drop, List.length_take]; rfl)) ?_; (with_reducible refine (lex_Tokens.calls a0 t270 t271 t272 _ A6.out ?side1).mono ?_); (case side1 => exact GL.below HG.out (by repeat (first | (with_reducible first | exact HB.out | apply below_alloc | apply pw_below_drewN | apply below_drew1) | exact HB.out))); rintro e w70 ⟨v273, rfl, ho0, hb⟩; refine ⟨_, rfl, ?_⟩; have n0_ := Aside0.mk (Kd.R_below (by (with_reducible repeat (first | apply Kd.R_alloc | apply Kd.R_drewN | apply Kd.R_drew)); exact HO268.out) hb); have n1_ := Aside0.mk (Kd.R_lower ho0 (below_size (by repeat (first | (with_reducible first | exact HB.out | apply below_alloc | apply pw_below_drewN | apply below_drew1) | exact HB.out)))); have n2_ := Aside0.mk (below_step (by repeat (first | (with_reducible first | exact HB.out | apply below_alloc | apply pw_below_drewN | apply below_drew1) | exact HB.out)) hb); clear HO268; clear HB; have HO268 := n0_; have HO274 := n1_; have HB := n2_; clear n0_ n1_ n2_; (try clear hb); (try clear hb2); (try clear hk); (try clear hi); (try clear ho0); obtain ⟨Ao71, co71, eo71⟩ := Kd.R_slice HO274.out; subst eo71))
      go_ret
      exact ⟨by first | rfl | (simp [errW_none, errW_some] <;> rfl) | (simp [*, errW_none, errW_some] <;> rfl), by repeat (first | (with_reducible first | exact HB.out | apply below_alloc | apply pw_below_drewN | apply below_drew1) | exact HB.out)⟩
    ·rw [if_neg c57] at H
     have c57b0 : ((t270.length : Int) == 0) = false := beq_eq_false_iff_ne.mpr c57
     have c57b1 : ((t270.length : Int) != 0) = true := bne_iff_ne.mpr c57
     have c57b2 : ¬ (t270 = []) := fun h_ => c57 (by rw [h_]; rfl)
     obtain rfl := Option.some.inj H
     go_enter Tryz.func6, Tryz.ntmps6
     go_wp2_with (first | ((with_reducible refine gate_callee (f := 11) rfl ?_); refine goesL_ (some 9) rfl rfl Tryz.func11 (by kernel_rfl) rfl #[] rfl (by (try simp only [List.map_toArray, List.map_cons, List.map_nil]); first | done | rfl | (simp only [List.length_drop, List.length_take]; rfl)) ?_; (with_reducible refine (madrigallaw01_sane.calls  true _ A2.out ?side1).mono ?_); (case side1 => exact GL.below HG.out (by repeat (first | (with_reducible first | exact HB.out | apply below_alloc | apply pw_below_drewN | apply below_drew1) | exact HB.out))); rintro e w72 ⟨rfl, hb⟩; refine ⟨_, rfl, ?_⟩; have n0_ := Aside0.mk (below_step (by repeat (first | (with_reducible first | exact HB.out | apply below_alloc | apply pw_below_drewN | apply below_drew1) | exact HB.out)) hb); clear HB; have HB := n0_; clear n0_; (try clear hb); (try clear hb2); (try clear hk); (try clear hi)) | ((with_reducible refine gate_dst (N := 12) rfl ?_); (try (refine gate_guard (by rfl) ?_; dsimp only)); refine Kd.R_lit Kd.string _ 9 ?hg (N := 12) ?hd (xs := ([a0] : List ByteArray)) (inner := [.string a0]) (ok := fun _ => True) (okp := fun _ => True) ?hr ?hp (fun _ hk => hk) trivial (Below.refl _ _) (Nat.le_refl _) (by simp) ?_; (case hd => rfl); (case hg => rfl); (case hr => first | (go_simp; done) | (go_simp; rfl)); (case hp => exact (Reps.one (show Kd.M Kd.string _ _ _ a0 [.string a0] from rfl) (Reps.none _ _))); intro v267 w73 ho74 hb hg_ hnew_; clear hg_ hnew_; (first | rw [← Ny266.out] at ho74 | (simp only [Int.reduceToNat] at ho74; rw [← Ny266.out] at ho74)); have n0_ := Aside0.mk (Kd.R_lower ho74 (below_size (by repeat (first | (with_reducible first | exact HB.out | apply below_alloc | apply pw_below_drewN | apply below_drew1) | exact HB.out)))); have n1_ := Aside0.mk (below_step (by repeat (first | (with_reducible first | exact HB.out | apply below_alloc | apply pw_below_drewN | apply below_drew1) | exact HB.out)) hb); clear HB; have HO268 := n0_; have HB := n1_; clear n0_ n1_; clear hb ho74; obtain ⟨Ao75, co75, eo75⟩ := Kd.R_slice HO268.out; subst eo75) | ((with_reducible refine gate_callee (f := 12) rfl ?_); refine goesL_ (some 13) rfl rfl Tryz.func12 (by kernel_rfl) rfl #[.slice Ao75 y266.length co75] rfl (by (try simp only [List.map_toArray, List.map_cons, List.map_nil]); first | done | rfl | (simp only [List.length_drop, List.length_take]; rfl)) ?_; (with_reducible refine (madrigallaw01_short.calls k _ _ y266 true _ ?side1 ?side2 A4.out).mono ?_); (case side1 => repeat (first | exact (Kd.R_reads' HO268.out).2.2 | (with_reducible refine Kd.C_alloc ?_ _) | (with_reducible refine Kd.C_drewN ?_ _) | (with_reducible refine Kd.C_drew ?_))); (case side2 => exact (Kd.R_reads' HO268.out).2.1); rintro e w' ⟨rfl, ⟨nd, rfl⟩⟩; refine ⟨_, rfl, ?_⟩) | ((with_reducible refine gate_callee (f := 13) rfl ?_); refine goesL_ (some 17) rfl rfl Tryz.func13 (by kernel_rfl) rfl #[.string a0] rfl (by (try simp only [List.map_toArray, List.map_cons, List.map_nil]); first | done | rfl | (simp only [List.length_drop, List.length_take]; rfl)) ?_; (with_reducible refine (lex_Tokens.calls a0 t270 t271 t272 _ A6.out ?side1).mono ?_); (case side1 => exact GL.below HG.out (by repeat (first | (with_reducible first | exact HB.out | apply below_alloc | apply pw_below_drewN | apply below_drew1) | exact HB.out))); rintro e w76 ⟨v273, rfl, ho0, hb⟩; refine ⟨_, rfl, ?_⟩; have n0_ := Aside0.mk (Kd.R_below (by (with_reducible repeat (first | apply Kd.R_alloc | apply Kd.R_drewN | apply Kd.R_drew)); exact HO268.out) hb); have n1_ := Aside0.mk (Kd.R_lower ho0 (below_size (by repeat (first | (with_reducible first | exact HB.out | apply below_alloc | apply pw_below_drewN | apply below_drew1) | exact HB.out)))); have n2_ := Aside0.mk (below_step (by repeat (first | (with_reducible first | exact HB.out | apply below_alloc | apply pw_below_drewN | apply below_drew1) | exact HB.out)) hb); clear HO268; clear HB; have HO268 := n0_; have HO274 := n1_; have HB := n2_; clear n0_ n1_ n2_; (try clear hb); (try clear hb2); (try clear hk); (try clear hi); (try clear ho0); obtain ⟨Ao77, co77, eo77⟩ := Kd.R_slice HO274.out; subst eo77))
     go_ret
     exact ⟨by first | rfl | (simp [errW_none, errW_some] <;> rfl) | (simp [*, errW_none, errW_some] <;> rfl), by repeat (first | (with_reducible first | exact HB.out | apply below_alloc | apply pw_below_drewN | apply below_drew1) | exact HB.out)⟩
  ·replace c5 := Bool.eq_false_iff.mpr c5
   subst c5
   have H1 : (some true) = some r := by rw [if_neg (show ¬ (false = true) by decide)] at H; exact H
   clear H
   have H := H1
   clear H1
   obtain rfl := Option.some.inj H
   go_enter Tryz.func6, Tryz.ntmps6
   go_wp2_with (first | ((with_reducible refine gate_callee (f := 11) rfl ?_); refine goesL_ (some 9) rfl rfl Tryz.func11 (by kernel_rfl) rfl #[] rfl (by (try simp only [List.map_toArray, List.map_cons, List.map_nil]); first | done | rfl | (simp only [List.length_drop, List.length_take]; rfl)) ?_; (with_reducible refine (madrigallaw01_sane.calls  true _ A2.out ?side1).mono ?_); (case side1 => exact GL.below HG.out (by repeat (first | (with_reducible first | exact HB.out | apply below_alloc | apply pw_below_drewN | apply below_drew1) | exact HB.out))); rintro e w78 ⟨rfl, hb⟩; refine ⟨_, rfl, ?_⟩; have n0_ := Aside0.mk (below_step (by repeat (first | (with_reducible first | exact HB.out | apply below_alloc | apply pw_below_drewN | apply below_drew1) | exact HB.out)) hb); clear HB; have HB := n0_; clear n0_; (try clear hb); (try clear hb2); (try clear hk); (try clear hi)) | ((with_reducible refine gate_dst (N := 12) rfl ?_); (try (refine gate_guard (by rfl) ?_; dsimp only)); refine Kd.R_lit Kd.string _ 9 ?hg (N := 12) ?hd (xs := ([a0] : List ByteArray)) (inner := [.string a0]) (ok := fun _ => True) (okp := fun _ => True) ?hr ?hp (fun _ hk => hk) trivial (Below.refl _ _) (Nat.le_refl _) (by simp) ?_; (case hd => rfl); (case hg => rfl); (case hr => first | (go_simp; done) | (go_simp; rfl)); (case hp => exact (Reps.one (show Kd.M Kd.string _ _ _ a0 [.string a0] from rfl) (Reps.none _ _))); intro v267 w79 ho80 hb hg_ hnew_; clear hg_ hnew_; (first | rw [← Ny266.out] at ho80 | (simp only [Int.reduceToNat] at ho80; rw [← Ny266.out] at ho80)); have n0_ := Aside0.mk (Kd.R_lower ho80 (below_size (by repeat (first | (with_reducible first | exact HB.out | apply below_alloc | apply pw_below_drewN | apply below_drew1) | exact HB.out)))); have n1_ := Aside0.mk (below_step (by repeat (first | (with_reducible first | exact HB.out | apply below_alloc | apply pw_below_drewN | apply below_drew1) | exact HB.out)) hb); clear HB; have HO268 := n0_; have HB := n1_; clear n0_ n1_; clear hb ho80; obtain ⟨Ao81, co81, eo81⟩ := Kd.R_slice HO268.out; subst eo81) | ((with_reducible refine gate_callee (f := 12) rfl ?_); refine goesL_ (some 13) rfl rfl Tryz.func12 (by kernel_rfl) rfl #[.slice Ao81 y266.length co81] rfl (by (try simp only [List.map_toArray, List.map_cons, List.map_nil]); first | done | rfl | (simp only [List.length_drop, List.length_take]; rfl)) ?_; (with_reducible refine (madrigallaw01_short.calls k _ _ y266 false _ ?side1 ?side2 A4.out).mono ?_); (case side1 => repeat (first | exact (Kd.R_reads' HO268.out).2.2 | (with_reducible refine Kd.C_alloc ?_ _) | (with_reducible refine Kd.C_drewN ?_ _) | (with_reducible refine Kd.C_drew ?_))); (case side2 => exact (Kd.R_reads' HO268.out).2.1); rintro e w' ⟨rfl, ⟨nd, rfl⟩⟩; refine ⟨_, rfl, ?_⟩))
   go_ret
   exact ⟨by first | rfl | (simp [errW_none, errW_some] <;> rfl) | (simp [*, errW_none, errW_some] <;> rfl), by repeat (first | (with_reducible first | exact HB.out | apply below_alloc | apply pw_below_drewN | apply below_drew1) | exact HB.out)⟩
 ·replace c3 := Bool.eq_false_iff.mpr c3
  subst c3
  have H1 : (some false) = some r := by rw [if_neg (show ¬ (false = true) by decide)] at H; exact H
  clear H
  have H := H1
  clear H1
  obtain rfl := Option.some.inj H
  go_enter Tryz.func6, Tryz.ntmps6
  go_wp2_with (first | ((with_reducible refine gate_callee (f := 11) rfl ?_); refine goesL_ (some 9) rfl rfl Tryz.func11 (by kernel_rfl) rfl #[] rfl (by (try simp only [List.map_toArray, List.map_cons, List.map_nil]); first | done | rfl | (simp only [List.length_drop, List.length_take]; rfl)) ?_; (with_reducible refine (madrigallaw01_sane.calls  false _ A2.out ?side1).mono ?_); (case side1 => exact GL.below HG.out (by repeat (first | (with_reducible first | exact HB.out | apply below_alloc | apply pw_below_drewN | apply below_drew1) | exact HB.out))); rintro e w82 ⟨rfl, hb⟩; refine ⟨_, rfl, ?_⟩; have n0_ := Aside0.mk (below_step (by repeat (first | (with_reducible first | exact HB.out | apply below_alloc | apply pw_below_drewN | apply below_drew1) | exact HB.out)) hb); clear HB; have HB := n0_; clear n0_; (try clear hb); (try clear hb2); (try clear hk); (try clear hi)))
  go_ret
  exact ⟨by first | rfl | (simp [errW_none, errW_some] <;> rfl) | (simp [*, errW_none, errW_some] <;> rfl), by repeat (first | (with_reducible first | exact HB.out | apply below_alloc | apply pw_below_drewN | apply below_drew1) | exact HB.out)⟩

/-- THE ONE PURE STATEMENT of madrigallaw01_LexPlaces: yours. -/
def madrigallaw01_LexPlaces.Pure : Prop := ∀ (a0 : ByteArray), a0.size ≤ 140737488351232 → ∃ k, madrigallaw01_LexPlaces.f k a0 = some true
theorem madrigallaw01_LexPlaces.walk (P : madrigallaw01_LexPlaces.Pure) (a0 : ByteArray) (w : World) (w0 : a0.size ≤ 140737488351232) (hG : GL w) :
  Calls Tryz.prog 6 #[.string a0] w fun e w' => e = .returned (.bool true) ∧ Below w.heap.size w w' := by
 obtain ⟨k, h⟩ := P a0 w0
 refine (madrigallaw01_LexPlaces.calls k a0 true w h hG).mono ?_
 rintro e w' ⟨rfl, hd⟩
 exact ⟨rfl, hd⟩
end Go.Proofs.YtglgppkjgodlkaaGreatDoor.P
