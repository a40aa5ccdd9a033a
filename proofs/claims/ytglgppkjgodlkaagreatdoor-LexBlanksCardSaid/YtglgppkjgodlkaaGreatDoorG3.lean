-- Printed by a program of this session (myprint.py, resplit.py), which drives the kit's printer; Lean checks every row.
import Derived.Test.YtglgppkjgodlkaaGreatDoorP0
import Derived.Test.YtglgppkjgodlkaaGreatDoorP1
import Derived.Test.YtglgppkjgodlkaaGreatDoorG0
import Derived.Test.YtglgppkjgodlkaaGreatDoorG1
import Derived.Test.YtglgppkjgodlkaaGreatDoorG2
namespace Go.Proofs.YtglgppkjgodlkaaGreatDoor.P
open Go.Proofs.YtglgppkjgodlkaaGreatDoorW.PrintLast Go.Proofs.YtglgppkjgodlkaaGreatDoorW.PrintMore Go.Proofs.YtglgppkjgodlkaaGreatDoorW.PrintWords Go.RowKit
attribute [local go_sem] max2_int min2_int max_two min_two max_three min_three max_four min_four   -- for this text's walks alone
set_option linter.unusedVariables false
set_option linter.unusedSimpArgs false
attribute [local go_sem high] eqA38

/-! ### lex_Join: function 24 -/
def joinStep (l : List S38) (i : Nat) : Option Bool := if i = 0 then some true else
 lex_apart.f (rd_T38 l ((i : Int) - 1)).f0 (rd_T38 l ((i : Int) - 1)).f1 (rd_T38 l ((i : Int) - 1)).f2 (rd_T38 l ((i : Int) - 1)).f3 (rd_T38 l ((i : Int) - 1)).f4
  (rd_T38 l (i : Int)).f0 (rd_T38 l (i : Int)).f1 (rd_T38 l (i : Int)).f2 (rd_T38 l (i : Int)).f3 (rd_T38 l (i : Int)).f4
def joinText (l : List S38) (i : Nat) : Option ByteArray := lex_written.f (rd_T38 l (i : Int)).f0 (rd_T38 l (i : Int)).f1 (rd_T38 l (i : Int)).f2 (rd_T38 l (i : Int)).f3 (rd_T38 l (i : Int)).f4
def sepB (b : Bool) : Lex.Bytes := if b then [] else [32]
def joinFrom (l : List S38) : Nat → Nat → Lex.Bytes → Option Lex.Bytes
 | 0, _, acc => some acc
 | k + 1, i, acc => (joinStep l i).bind fun b => (joinText l i).bind fun t => if acc.length + 1 + t.size ≤ 140737488355328 then joinFrom l k (i + 1) (acc ++ sepB b ++ t.data.toList) else none
def lex_Join.f (l : List S38) : Option (ByteArray × Int) :=
 (lex_right.f l).bind fun b => if b then (if 20000 < l.length then some (⟨#[]⟩, 2) else (joinFrom l l.length 0 []).bind fun o => if 100000 < o.length then some (⟨#[]⟩, 2) else some (⟨o.toArray⟩, 0)) else some (⟨#[]⟩, 1)
theorem join_next {l : List S38} {i : Nat} {acc out : Lex.Bytes} (hi : i < l.length) (h : joinFrom l (l.length - i) i acc = some out) :
  ∃ b t, joinStep l i = some b ∧ joinText l i = some t ∧ acc.length + 1 + t.size ≤ 140737488355328 ∧ joinFrom l (l.length - (i + 1)) (i + 1) (acc ++ sepB b ++ t.data.toList) = some out := by
 rw [show l.length - i = (l.length - (i + 1)) + 1 by omega, joinFrom] at h
 obtain ⟨b, h1, h⟩ := Option.bind_eq_some_iff.mp h
 obtain ⟨t, h2, h⟩ := Option.bind_eq_some_iff.mp h
 split at h
 ·exact ⟨b, t, h1, h2, by omega, h⟩
 ·cases h
theorem join_len {b : Bool} {acc : Lex.Bytes} {n : Nat} (h : acc.length + 1 + n ≤ 140737488355328) : (acc ++ sepB b).length + n ≤ 140737488355328 := by
 cases b <;> simp [sepB] <;> omega
theorem join_one {acc : Lex.Bytes} {n : Nat} (h : acc.length + 1 + n ≤ 140737488355328) : acc.length + 1 ≤ 140737488355328 := by omega
/-- At a round of Join. -/
structure JoinAt (w : World) (b : Nat) (l : List S38) (out : Lex.Bytes) (i : Nat) (acc : Lex.Bytes) (W : World) : Prop where
 le : i ≤ l.length
 bel : Below w.heap.size w W
 bld : Bld w.heap.size b acc W
 eq : joinFrom l (l.length - i) i acc = some out
def TokBlk (w : World) (tb : Nat) (x : S38) : Prop := w.heap[tb]? = some (.cells #[.int .i64 x.f0, .int .i64 x.f1, .string x.f2, .int .i64 x.f3, .int .i64 x.f4] 38 (0, 0))
theorem TokBlk.cells {w : World} {tb : Nat} {x : S38} (h : TokBlk w tb x) : w.cell? ⟨tb, 0, none⟩ = some (.int .i64 x.f0) ∧ w.cell? ⟨tb, 1, none⟩ = some (.int .i64 x.f1) ∧ w.cell? ⟨tb, 2, none⟩ = some (.string x.f2) ∧ w.cell? ⟨tb, 3, none⟩ = some (.int .i64 x.f3) ∧ w.cell? ⟨tb, 4, none⟩ = some (.int .i64 x.f4) :=
 ⟨by rw [cell_of_row w tb 0 _ _ _ h]; rfl, by rw [cell_of_row w tb 1 _ _ _ h]; rfl, by rw [cell_of_row w tb 2 _ _ _ h]; rfl, by rw [cell_of_row w tb 3 _ _ _ h]; rfl, by rw [cell_of_row w tb 4 _ _ _ h]; rfl⟩
/-- In a round of Join, behind the blank. -/
structure JoinIn (w : World) (bb tb : Nat) (x : S38) (acc : Lex.Bytes) (W : World) : Prop where
 bel : Below w.heap.size w W
 bld : Bld w.heap.size bb acc W
 tok : TokBlk W tb x
 ne : bb ≠ tb
theorem JoinIn.below {w : World} {bb tb : Nat} {x : S38} {acc : Lex.Bytes} {W W2 : World} (h : JoinIn w bb tb x acc W) (hb : Below W.heap.size W W2) : JoinIn w bb tb x acc W2 :=
 ⟨h.bel.trans (hb.mono h.bel.size), h.bld.below hb, (hb.block tb (Array.getElem?_eq_some_iff.1 h.tok).1).trans h.tok, h.ne⟩
theorem JoinIn.wrote {w : World} {bb tb : Nat} {x : S38} {acc acc' : Lex.Bytes} {W W2 : World} (h : JoinIn w bb tb x acc W) (h1 : Bld w.heap.size bb acc' W2) (h2 : Below w.heap.size W W2) (h3 : Kept bb W W2) : JoinIn w bb tb x acc' W2 :=
 ⟨h.bel.trans h2, h1, h3 tb _ h.tok (fun e => h.ne (by injection e with e; exact e.symm)) (fun c fz e => by injection e with _ e; exact absurd e (by decide)), h.ne⟩
set_option maxHeartbeats 8000000 in
set_option maxRecDepth 100000 in
theorem join_done (A0 : Option Addr) (c0 : Nat) (l0 : List S38) (out : Lex.Bytes) (w : World) (hr0 : Kd.C k38 w A0 l0.length l0) (hc0 : l0.length ≤ c0) (hR : lex_right.f l0 = some true) (hn : l0.length ≤ 20000) (h : joinFrom l0 l0.length 0 [] = some out) (hG : GL w) :
  Calls Tryz.prog 24 #[.slice A0 l0.length c0] w fun e w' => e = .returned (.tuple #[.string (if 100000 < out.length then ⟨#[]⟩ else ⟨out.toArray⟩), .int .i64 (if 100000 < out.length then 2 else 0)]) ∧ Below w.heap.size w w' := by
 have hx := Aside0.mk (lex_right.calls A0 c0 l0 true w hr0 hc0 hR hG)
 have HG := Aside0.mk hG
 have HR0 := Aside0.mk hr0
 have H0 := Aside0.mk h
 have hn2 : ¬ 20000 < (l0.length : Int) := by omega
 clear hr0 hc0 h hG hR
 go_enter Tryz.func24, Tryz.ntmps24
 go_wp2_with fail
 refine hx.out.mono ?_
 rintro e w1 ⟨rfl, hB⟩
 have HB := Aside0.mk hB
 clear hB hx
 go_wp2_with fail
 have hst : JoinAt w w1.heap.size l0 out 0 [] (w1.alloc (.cells #[.pointer none, .slice none 0 0] 80)) := ⟨Nat.zero_le _, HB.out.alloc HB.out.size _, bld_new _ _ HB.out.size, H0.out⟩
 generalize hWb : w1.alloc (.cells #[.pointer none, .slice none 0 0] 80) = Wb at hst ⊢
 clear hWb
 generalize w1.heap.size = bb at hst ⊢
 clear HB
 go_wp2_with fail
 go_loopg [15] l0.length (fun k t wr => ∃ (i : Nat) (acc : Lex.Bytes), l0.length - i ≤ k ∧ t = .int .i64 (i : Int) ∧ Aside0 (JoinAt w bb l0 out i acc wr))
 case atStart => exact ⟨0, [], Nat.le_refl _, rfl, ⟨hst⟩⟩
 case round =>
  obtain ⟨i, acc, hkk, rfl, HI⟩ := hrel
  by_cases hlt : i < l0.length
  ·have hlt2 : (i : Int) < (l0.length : Int) := by omega
   obtain ⟨b, t, h1, h2, h3, h4⟩ := join_next hlt HI.out.eq
   have hw64 := right_wrap hlt (by omega)
   obtain ⟨ad, e175, hx0, hx1, hx2, hx3, hx4⟩ := at_T38 HR0.out (i : Int) (by omega) (by omega)
   cases e175
   replace hx0 := (HI.out.bel.cell (World.block_lt_of_cell? w _ hx0)).trans hx0
   replace hx1 := (HI.out.bel.cell (World.block_lt_of_cell? w _ hx1)).trans hx1
   replace hx2 := (HI.out.bel.cell (World.block_lt_of_cell? w _ hx2)).trans hx2
   replace hx3 := (HI.out.bel.cell (World.block_lt_of_cell? w _ hx3)).trans hx3
   replace hx4 := (HI.out.bel.cell (World.block_lt_of_cell? w _ hx4)).trans hx4
   simp only [Int.toNat_natCast] at hx0 hx1 hx2 hx3 hx4
   have hy := hx0
   go_wp2_with fail
   have hne : bb ≠ wr.heap.size := by
    have : bb < wr.heap.size := by
     rcases HI.out.bld with h | h
     ·exact h.lt
     ·exact h.lt
    omega
   have HIn : ∀ o : Obj, o = (Obj.cells #[.int .i64 (rd_T38 l0 (i : Int)).f0, .int .i64 (rd_T38 l0 (i : Int)).f1, .string (rd_T38 l0 (i : Int)).f2, .int .i64 (rd_T38 l0 (i : Int)).f3, .int .i64 (rd_T38 l0 (i : Int)).f4] 38) → Aside0 (JoinIn w bb wr.heap.size (rd_T38 l0 (i : Int)) acc (wr.alloc o)) := by
    rintro o rfl
    exact ⟨⟨HI.out.bel.alloc HI.out.bel.size _, HI.out.bld.below (below_alloc (Below.refl _ _) _), Array.getElem?_push_size, hne⟩⟩
   have HJ := HIn _ rfl
   have H2 : Aside0 (lex_written.f (rd_T38 l0 (i : Int)).f0 (rd_T38 l0 (i : Int)).f1 (rd_T38 l0 (i : Int)).f2 (rd_T38 l0 (i : Int)).f3 (rd_T38 l0 (i : Int)).f4 = some t) := ⟨h2⟩
   have H3 := Aside0.mk h3
   have H4 := Aside0.mk h4
   clear hx0 hx1 hx2 hx3 hx4 hy HI HIn hne h2 h3 h4
   generalize hW2 : wr.alloc (Obj.cells #[.int .i64 (rd_T38 l0 (i : Int)).f0, .int .i64 (rd_T38 l0 (i : Int)).f1, .string (rd_T38 l0 (i : Int)).f2, .int .i64 (rd_T38 l0 (i : Int)).f3, .int .i64 (rd_T38 l0 (i : Int)).f4] 38) = W2 at HJ ⊢
   clear hW2
   generalize wr.heap.size = tb at HJ ⊢
   have hk := HJ.out.tok.cells
   have k0 := hk.1
   have k1 := hk.2.1
   have k2 := hk.2.2.1
   have k3 := hk.2.2.2.1
   have k4 := hk.2.2.2.2
   clear hk
   by_cases hi0 : i = 0
   ·have hb : b = true := by
     unfold joinStep at h1
     rw [if_pos hi0] at h1
     injection h1 with h1
     exact h1.symm
    subst hi0
    clear h1
    subst hb
    go_quiet (fail)
    all_goals
     have HJ3 : Aside0 (JoinIn w bb tb (rd_T38 l0 ((0 : Nat) : Int)) (acc ++ sepB true) (W2.drewN nq)) := ⟨by rw [show sepB true = [] from rfl, List.append_nil]; exact HJ.out.below (below_drewN' _ _)⟩
     clear k0 k1 k2 k3 k4
     have hk := HJ3.out.tok.cells
     have y0 := hk.1
     have y1 := hk.2.1
     have y2 := hk.2.2.1
     have y3 := hk.2.2.2.1
     have y4 := hk.2.2.2.2
     clear hk
     go_wp2_with fail
     refine (lex_written.calls _ _ _ _ _ t _ H2.out (GL.below HG.out HJ3.out.bel)).mono ?_
     rintro e w4 ⟨rfl, hB4⟩
     have HJ4 := Aside0.mk (HJ3.out.below hB4)
     clear y0 y1 y2 y3 y4 hB4
     go_wp2_with fail
     refine (bld_str w.heap.size bb _ t _ HJ4.out.bld (join_len H3.out) HJ4.out.bel.size).mono ?_
     rintro e w5 ⟨rfl, hb5, hB5, hK5⟩
     have HJ5 := Aside0.mk (HJ4.out.wrote hb5 hB5 hK5)
     clear hb5 hB5 hK5
     go_wp2_with fail
     go_roundg (l0.length - (0 + 1))
     case measure => exact drop_less hlt hkk
     case rel => exact ⟨0 + 1, _, Nat.le_refl _, by first | rfl | rw [hw64], ⟨⟨hlt, HJ5.out.bel, HJ5.out.bld, H4.out⟩⟩⟩
   ·have hi1 : (0 : Int) < (i : Int) := by omega
    have hi2 : 0 < i := by omega
    have hs1 : IntKind.i64.wrap ((i : Int) - 1) = (i : Int) - 1 := by
     rw [i64_w]
     unfold wrap64
     omega
    obtain ⟨ad, e175, hx0, hx1, hx2, hx3, hx4⟩ := at_T38 HR0.out ((i : Int) - 1) (by omega) (by omega)
    cases e175
    replace hx0 := (HJ.out.bel.cell (World.block_lt_of_cell? w _ hx0)).trans hx0
    replace hx1 := (HJ.out.bel.cell (World.block_lt_of_cell? w _ hx1)).trans hx1
    replace hx2 := (HJ.out.bel.cell (World.block_lt_of_cell? w _ hx2)).trans hx2
    replace hx3 := (HJ.out.bel.cell (World.block_lt_of_cell? w _ hx3)).trans hx3
    replace hx4 := (HJ.out.bel.cell (World.block_lt_of_cell? w _ hx4)).trans hx4
    have eN : ((i : Int) - 1).toNat = i - 1 := by omega
    have hi3 : (0 : Int) ≤ (i : Int) - 1 := by omega
    have hi4 : (i : Int) - 1 < (l0.length : Int) := by omega
    have hi5 : i - 1 < l0.length := by omega
    rw [eN] at hx0 hx1 hx2 hx3 hx4
    have hc := Aside0.mk (fun W hW => lex_apart.calls _ _ _ _ _ _ _ _ _ _ b W (by unfold joinStep at h1; rw [if_neg hi0] at h1; exact h1) hW)
    clear h1
    go_region_with (go_at_call 50; refine (hc.out _ (GL.below HG.out (HJ.out.bel.trans (Below.mono (by repeat (first | exact below_drewN' _ _ | exact Below.refl _ _ | apply Below.drew)) HJ.out.bel.size)))).mono ?_; rintro e w2 ⟨rfl, hB2⟩)
    all_goals
     have HJ2 := Aside0.mk (HJ.out.below (Below.trans (by repeat (first | exact below_drewN' _ _ | exact Below.refl _ _ | apply Below.drew)) hB2))
     clear hB2 k0 k1 k2 k3 k4 hx0 hx1 hx2 hx3 hx4
     cases b with
     | true =>
      have HJ3 : Aside0 (JoinIn w bb tb (rd_T38 l0 (i : Int)) (acc ++ sepB true) w2) := ⟨by rw [show sepB true = [] from rfl, List.append_nil]; exact HJ2.out⟩
      clear HJ2
      have hk := HJ3.out.tok.cells
      have y0 := hk.1
      have y1 := hk.2.1
      have y2 := hk.2.2.1
      have y3 := hk.2.2.2.1
      have y4 := hk.2.2.2.2
      clear hk
      go_wp2_with fail
      refine (lex_written.calls _ _ _ _ _ t _ H2.out (GL.below HG.out HJ3.out.bel)).mono ?_
      rintro e w4 ⟨rfl, hB4⟩
      have HJ4 := Aside0.mk (HJ3.out.below hB4)
      clear y0 y1 y2 y3 y4 hB4
      go_wp2_with fail
      refine (bld_str w.heap.size bb _ t _ HJ4.out.bld (join_len H3.out) HJ4.out.bel.size).mono ?_
      rintro e w5 ⟨rfl, hb5, hB5, hK5⟩
      have HJ5 := Aside0.mk (HJ4.out.wrote hb5 hB5 hK5)
      clear hb5 hB5 hK5
      go_wp2_with fail
      go_roundg (l0.length - (i + 1))
      case measure => exact drop_less hlt hkk
      case rel => exact ⟨i + 1, _, Nat.le_refl _, by first | rfl | rw [hw64], ⟨⟨hlt, HJ5.out.bel, HJ5.out.bld, H4.out⟩⟩⟩
     | false =>
      go_wp2_with fail
      refine (bld_byte w.heap.size bb _ 32 w2 HJ2.out.bld (join_one H3.out) HJ2.out.bel.size).mono ?_
      rintro e w3 ⟨rfl, hb3, hB3, hK3⟩
      have HJ3 : Aside0 (JoinIn w bb tb (rd_T38 l0 (i : Int)) (acc ++ sepB false) w3) := ⟨HJ2.out.wrote hb3 hB3 hK3⟩
      clear HJ2 hb3 hB3 hK3
      have hk := HJ3.out.tok.cells
      have y0 := hk.1
      have y1 := hk.2.1
      have y2 := hk.2.2.1
      have y3 := hk.2.2.2.1
      have y4 := hk.2.2.2.2
      clear hk
      go_wp2_with fail
      refine (lex_written.calls _ _ _ _ _ t _ H2.out (GL.below HG.out HJ3.out.bel)).mono ?_
      rintro e w4 ⟨rfl, hB4⟩
      have HJ4 := Aside0.mk (HJ3.out.below hB4)
      clear y0 y1 y2 y3 y4 hB4
      go_wp2_with fail
      refine (bld_str w.heap.size bb _ t _ HJ4.out.bld (join_len H3.out) HJ4.out.bel.size).mono ?_
      rintro e w5 ⟨rfl, hb5, hB5, hK5⟩
      have HJ5 := Aside0.mk (HJ4.out.wrote hb5 hB5 hK5)
      clear hb5 hB5 hK5
      go_wp2_with fail
      go_roundg (l0.length - (i + 1))
      case measure => exact drop_less hlt hkk
      case rel => exact ⟨i + 1, _, Nat.le_refl _, by first | rfl | rw [hw64], ⟨⟨hlt, HJ5.out.bel, HJ5.out.bld, H4.out⟩⟩⟩
  ·have hlt2 : ¬ (i : Int) < (l0.length : Int) := by omega
   have hacc : acc = out := by
    have := HI.out.eq
    rw [show l0.length - i = 0 by omega, joinFrom] at this
    injection this
   subst hacc
   go_wp2_with fail
   refine (bld_len w.heap.size bb _ wr HI.out.bld).mono ?_
   rintro e w2 ⟨rfl, rfl⟩
   by_cases hbig : 100000 < acc.length
   ·have hbig2 : (100000 : Int) < (acc.length : Int) := by omega
    go_wp2_with fail
    go_ret2
    exact ⟨rfl, HI.out.bel⟩
   ·have hbig2 : ¬ (100000 : Int) < (acc.length : Int) := by omega
    go_wp2_with fail
    refine (bld_string w.heap.size bb _ _ HI.out.bld HI.out.bel.size).mono ?_
    rintro e w3 ⟨rfl, hB3⟩
    have HB3 := Aside0.mk (HI.out.bel.trans hB3)
    clear hB3
    go_wp2_with fail
    go_ret2
    exact ⟨rfl, HB3.out⟩
set_option maxHeartbeats 8000000 in
set_option maxRecDepth 100000 in
theorem join_not (A0 : Option Addr) (c0 : Nat) (l0 : List S38) (w : World) (hr0 : Kd.C k38 w A0 l0.length l0) (hc0 : l0.length ≤ c0) (hR : lex_right.f l0 = some false) (hG : GL w) :
  Calls Tryz.prog 24 #[.slice A0 l0.length c0] w fun e w' => e = .returned (.tuple #[.string ⟨#[]⟩, .int .i64 1]) ∧ Below w.heap.size w w' := by
 have hx := Aside0.mk (lex_right.calls A0 c0 l0 false w hr0 hc0 hR hG)
 clear hr0 hc0 hG hR
 go_enter Tryz.func24, Tryz.ntmps24
 go_wp2_with fail
 refine hx.out.mono ?_
 rintro e w1 ⟨rfl, hB⟩
 have HB := Aside0.mk hB
 clear hB hx
 go_wp2_with fail
 go_ret2
 exact ⟨rfl, HB.out⟩
set_option maxHeartbeats 8000000 in
set_option maxRecDepth 100000 in
theorem join_many (A0 : Option Addr) (c0 : Nat) (l0 : List S38) (w : World) (hr0 : Kd.C k38 w A0 l0.length l0) (hc0 : l0.length ≤ c0) (hR : lex_right.f l0 = some true) (hn : 20000 < l0.length) (hG : GL w) :
  Calls Tryz.prog 24 #[.slice A0 l0.length c0] w fun e w' => e = .returned (.tuple #[.string ⟨#[]⟩, .int .i64 2]) ∧ Below w.heap.size w w' := by
 have hx := Aside0.mk (lex_right.calls A0 c0 l0 true w hr0 hc0 hR hG)
 have hn2 : (20000 : Int) < (l0.length : Int) := by omega
 clear hr0 hc0 hG hR
 go_enter Tryz.func24, Tryz.ntmps24
 go_wp2_with fail
 refine hx.out.mono ?_
 rintro e w1 ⟨rfl, hB⟩
 have HB := Aside0.mk hB
 clear hB hx
 go_wp2_with fail
 go_ret2
 exact ⟨rfl, HB.out⟩
theorem lex_Join.calls (A0 : Option Addr) (c0 : Nat) (l0 : List (S38)) (r1 : ByteArray) (r2 : Int) (w : World) (hr0 : Kd.C k38 w A0 l0.length l0) (hc0 : l0.length ≤ c0) (h : lex_Join.f l0 = some (r1, r2)) (hG : GL w) :
  Calls Tryz.prog 24 #[.slice A0 l0.length c0] w fun e w' => e = .returned (.tuple #[.string r1, .int .i64 r2]) ∧ Below w.heap.size w w' := by
 unfold lex_Join.f at h
 obtain ⟨b, hb, h⟩ := Option.bind_eq_some_iff.mp h
 cases b with
 | false =>
  injection h with h
  injection h with h1 h2
  subst h1 h2
  exact join_not A0 c0 l0 w hr0 hc0 hb hG
 | true =>
  rw [if_pos rfl] at h
  split at h
  ·rename_i hn
   injection h with h
   injection h with h1 h2
   subst h1 h2
   exact join_many A0 c0 l0 w hr0 hc0 hb hn hG
  ·rename_i hn
   obtain ⟨o, ho, h⟩ := Option.bind_eq_some_iff.mp h
   refine (join_done A0 c0 l0 o w hr0 hc0 hb (by omega) ho hG).mono ?_
   rintro e w' ⟨rfl, hB⟩
   split at h
   ·rename_i hbig
    injection h with h
    injection h with h1 h2
    subst h1 h2
    exact ⟨by rw [if_pos hbig, if_pos hbig], hB⟩
   ·rename_i hbig
    injection h with h
    injection h with h1 h2
    subst h1 h2
    exact ⟨by rw [if_neg hbig, if_neg hbig], hB⟩


/-! ### strings_Count: function 58 -/
def strings_Count.f (a0 : ByteArray) (a1 : ByteArray) : Option (Int) := if a1.size = 1 then some (Lib.countByte a0.data.toList (a1.data.toList.getD 0 0) : Int) else none
theorem strings_Count.calls (a0 : ByteArray) (a1 : ByteArray) (r : Int) (w : World) (h : strings_Count.f a0 a1 = some r) :
  Calls Tryz.prog 58 #[.string a0, .string a1] w fun e w' => e = .returned (.int .i64 r) ∧ Drawn0 w w' := by
 unfold strings_Count.f at h
 split at h
 case isFalse => cases h
 rename_i hs
 injection h with h
 subst h
 refine (count_any a0 a1 hs w).mono ?_
 rintro e w' ⟨rfl, rfl⟩
 exact ⟨rfl, Drawn0.refl _⟩


/-! ### strings_LastIndexByte: function 59 -/
def strings_LastIndexByte.f (a0 : ByteArray) (a1 : Int) : Option (Int) := if a0.size < 4611686018427387904 then some (Lib.lastIndexByte a0 a1) else none
theorem strings_LastIndexByte.calls (a0 : ByteArray) (a1 : Int) (r : Int) (w : World) (h : strings_LastIndexByte.f a0 a1 = some r) :
  Calls Tryz.prog 59 #[.string a0, .int .u8 a1] w fun e w' => e = .returned (.int .i64 r) ∧ Drawn0 w w' := by
 unfold strings_LastIndexByte.f at h
 split at h
 case isFalse => cases h
 rename_i hs
 injection h with h
 subst h
 refine (Tryz.strings_LastIndexByte a0 a1 hs w).mono ?_
 rintro e w' ⟨rfl, rfl⟩
 exact ⟨rfl, Drawn0.refl _⟩


/-! ### lex_Place: function 31 -/
def lex_Place.j0 : Nat → ByteArray → Int → Bool → Option (Int × Int × Int)
 | 0, _, _, _ => none
 | k + 1, x0, x1, x15 => if x15 = true then (some (0, 0, 1)) else (if 0 ≤ x1 then (if x1 ≤ (x0.size : Int) then ((strings_Count.f (x0.extract 0 (x1 : Int).toNat) (⟨#[10]⟩ : ByteArray)).bind fun t137 => ((strings_LastIndexByte.f (x0.extract 0 (x1 : Int).toNat) 10).bind fun t138 => (some (wrap64 (1 + t137), wrap64 (x1 - t138), 0)))) else (none)) else (none))
def lex_Place.f (k : Nat) (a0 : ByteArray) (a1 : Int) : Option (Int × Int × Int) := if a1 < 0 then (lex_Place.j0 k a0 a1 true) else (lex_Place.j0 k a0 a1 (decide (a1 > (a0.size : Int))))
theorem lex_Place.mono_l : ∀ k, (∀ y0 y1 y2, LeO (lex_Place.j0 k y0 y1 y2) (lex_Place.j0 (k + 1) y0 y1 y2))
 | 0 => fun _ _ _ r h => by simp [lex_Place.j0] at h
 | k + 1 => by
  have ih0 := lex_Place.mono_l k
  ·intro y0 y1 y2
   unfold lex_Place.j0
   repeat' first
   | (with_reducible exact ih0 _ _ _)
   | (with_reducible exact LeO.refl _)
   | (with_reducible exact LeO.none _)
   | (with_reducible refine LeO.ite ?_ ?_)
   | (with_reducible refine LeO.bind ?_ (fun _ => ?_))
   | exact ih0 _ _ _
   | exact LeO.none _
   | refine LeO.ite ?_ ?_
   | refine LeO.bind ?_ (fun _ => ?_)
theorem lex_Place.mono : ∀ a0 a1 k, LeO (lex_Place.f k a0 a1) (lex_Place.f (k + 1) a0 a1) := by
 intro a0 a1 k
 have ih0 := lex_Place.mono_l k
 unfold lex_Place.f
 repeat' first
   | (with_reducible exact ih0 _ _ _)
   | (with_reducible exact LeO.refl _)
   | (with_reducible exact LeO.none _)
   | (with_reducible refine LeO.ite ?_ ?_)
   | (with_reducible refine LeO.bind ?_ (fun _ => ?_))
   | exact ih0 _ _ _
   | exact LeO.none _
   | refine LeO.ite ?_ ?_
   | refine LeO.bind ?_ (fun _ => ?_)
set_option maxHeartbeats 8000000 in
set_option maxRecDepth 100000 in
theorem lex_Place.calls (k : Nat) (a0 : ByteArray) (a1 : Int) (r1 : Int) (r2 : Int) (r3 : Int) (w : World) (h : lex_Place.f k a0 a1 = some (r1, r2, r3)) :
  Calls Tryz.prog 31 #[.string a0, .int .i64 a1] w fun e w' => e = .returned (.tuple #[.int .i64 r1, .int .i64 r2, .int .i64 r3]) ∧ Drawn0 w w' := by
 have H : (if a1 < 0 then (lex_Place.j0 k a0 a1 true) else (lex_Place.j0 k a0 a1 (decide (a1 > (a0.size : Int))))) = some (r1, r2, r3) := h
 clear h
 have HC3 := Aside0.mk H
 clear H
 go_enter Tryz.func31, Tryz.ntmps31
 go_upto_region 1 with (fail)
 go_cut [15] (fun v15 wc => ∃ (kq : Nat) (x15_2 : Bool), v15 = .bool x15_2 ∧ Aside0 (lex_Place.j0 kq a0 a1 x15_2 = some (r1, r2, r3)) ∧ Aside0 (kq ≤ k) ∧ Drawn0 w wc)
 case first =>
  have H := HC3.out
  clear HC3
  by_cases c4 : a1 < 0
  ·rw [if_pos c4] at H
   have c4b0 : decide (a1 < 0) = true := decide_eq_true c4
   clear c4
   (first | rw [c4b0] | (simp only [i64_w, i32_w]; rw [c4b0]) | skip)
   have H' := Aside0.mk H
   clear H
   go_wp2
   go_meet
   case rel => exact ⟨_, (true), (by first | rfl | (simp; done) | (simp [*]; done)), H', ⟨by first | omega | exact Nat.le_refl _⟩, by repeat (first | exact Drawn0.refl _ | apply Drawn0.step)⟩
  ·rw [if_neg c4] at H
   have c4b0 : decide (a1 < 0) = false := decide_eq_false c4
   clear c4
   (first | rw [c4b0] | (simp only [i64_w, i32_w]; rw [c4b0]) | skip)
   have H' := Aside0.mk H
   clear H
   go_wp2
   go_meet
   case rel => exact ⟨_, (decide (a1 > (a0.size : Int))), (by first | rfl | (simp; done) | (simp [*]; done)), H', ⟨by first | omega | exact Nat.le_refl _⟩, by repeat (first | exact Drawn0.refl _ | apply Drawn0.step)⟩
 case rest =>
  clear HC3
  try clear p2
  try clear c3
  try clear c4
  try clear c4b0
  obtain ⟨kq, x15_2, rfl, HA, HJ2, ⟨mc2, rfl⟩⟩ := hcut
  cases kq with
  | zero => exact absurd HA.out (by simp [lex_Place.j0])
  | succ kj2 =>
   have H := HA.out
   clear HA
   simp only [lex_Place.j0] at H
   by_cases c5 : x15_2 = true
   ·subst c5
    have H1 : (some (0, 0, 1)) = some (r1, r2, r3) := by rw [if_pos rfl] at H; exact H
    clear H
    have H := H1
    clear H1
    simp only [Option.some.injEq, Prod.mk.injEq] at H
    obtain ⟨rfl, rfl, rfl⟩ := H
    go_wp2
    go_ret3
    exact ⟨by first | rfl | (simp; done) | (simp [*]; done), by repeat (first | exact Drawn0.refl _ | apply Drawn0.step)⟩
   ·replace c5 := Bool.eq_false_iff.mpr c5
    subst c5
    have H1 : (if 0 ≤ a1 then (if a1 ≤ (a0.size : Int) then ((strings_Count.f (a0.extract 0 (a1 : Int).toNat) (⟨#[10]⟩ : ByteArray)).bind fun t137 => ((strings_LastIndexByte.f (a0.extract 0 (a1 : Int).toNat) 10).bind fun t138 => (some (wrap64 (1 + t137), wrap64 (a1 - t138), 0)))) else (none)) else (none)) = some (r1, r2, r3) := by rw [if_neg (show ¬ (false = true) by decide)] at H; exact H
    clear H
    have H := H1
    clear H1
    by_cases c6 : 0 ≤ a1
    ·rw [if_pos c6] at H
     have c6b0 := eq_true c6
     have c6b1 : decide (0 ≤ a1) = true := decide_eq_true c6
     clear c6
     by_cases c7 : a1 ≤ (a0.size : Int)
     ·rw [if_pos c7] at H
      have c7b0 := eq_true c7
      have c7b1 : decide (a1 ≤ (a0.size : Int)) = true := decide_eq_true c7
      clear c7
      replace H := Option.bind_eq_some_iff.mp H
      obtain ⟨t137, A80, H⟩ := H
      replace H : ((strings_LastIndexByte.f (a0.extract 0 (a1 : Int).toNat) 10).bind fun t138 => (some (wrap64 (1 + t137), wrap64 (a1 - t138), 0))) = some (r1, r2, r3) := H
      have A8 := Aside0.mk A80
      clear A80
      replace H := Option.bind_eq_some_iff.mp H
      obtain ⟨t138, A90, H⟩ := H
      replace H : (some (wrap64 (1 + t137), wrap64 (a1 - t138), 0)) = some (r1, r2, r3) := H
      have A9 := Aside0.mk A90
      clear A90
      simp only [Option.some.injEq, Prod.mk.injEq] at H
      obtain ⟨rfl, rfl, rfl⟩ := H
      go_wp2_with (first | ((with_reducible refine gate_callee (f := 58) rfl ?_); refine goesL_ (some 20) rfl rfl Tryz.func58 (by kernel_rfl) rfl #[.string (a0.extract 0 (a1 : Int).toNat), .string (⟨#[10]⟩ : ByteArray)] rfl (by (try simp only [List.map_toArray, List.map_cons, List.map_nil]); first | done | rfl | (simp only [List.length_drop, List.length_take]; rfl)) ?_; (with_reducible refine (strings_Count.calls (a0.extract 0 (a1 : Int).toNat) (⟨#[10]⟩ : ByteArray) t137 _ A8.out).mono ?_); rintro e w' ⟨rfl, ⟨nd, rfl⟩⟩; refine ⟨_, rfl, ?_⟩) | ((with_reducible refine gate_callee (f := 59) rfl ?_); refine goesL_ (some 24) rfl rfl Tryz.func59 (by kernel_rfl) rfl #[.string (a0.extract 0 (a1 : Int).toNat), .int .u8 10] rfl (by (try simp only [List.map_toArray, List.map_cons, List.map_nil]); first | done | rfl | (simp only [List.length_drop, List.length_take]; rfl)) ?_; (with_reducible refine (strings_LastIndexByte.calls (a0.extract 0 (a1 : Int).toNat) 10 t138 _ A9.out).mono ?_); rintro e w' ⟨rfl, ⟨nd, rfl⟩⟩; refine ⟨_, rfl, ?_⟩))
      go_ret3
      exact ⟨by first | rfl | (simp; done) | (simp [*]; done), by repeat (first | exact Drawn0.refl _ | apply Drawn0.step)⟩
     ·rw [if_neg c7] at H
      exact absurd H (by simp)
    ·rw [if_neg c6] at H
     exact absurd H (by simp)

/-! ### madrigalref01_Text: function 27 -/
def madrigalref01_Text.f (a0_0 : Int) (a0_1 : Int) (a0_2 : ByteArray) (a0_3 : Int) (a0_4 : Int) : Option (ByteArray) := if a0_0 = 3 then ((strconv_Itoa.f a0_1).bind fun t140 => (some t140)) else (some a0_2)
set_option maxHeartbeats 8000000 in
set_option maxRecDepth 100000 in
theorem madrigalref01_Text.calls (a0_0 : Int) (a0_1 : Int) (a0_2 : ByteArray) (a0_3 : Int) (a0_4 : Int) (r : ByteArray) (w : World) (h : madrigalref01_Text.f a0_0 a0_1 a0_2 a0_3 a0_4 = some r) (hG : GL w) :
  Calls Tryz.prog 27 #[.agg #[.int .i64 a0_0, .int .i64 a0_1, .string a0_2, .int .i64 a0_3, .int .i64 a0_4]] w fun e w' => e = .returned (.string r) ∧ Below w.heap.size w w' := by
 have hu38 := Tryz.underlying38
 have HG := Aside0.mk hG
 clear hG
 have HB := Aside0.mk (Below.refl w.heap.size w)
 have H : (if a0_0 = 3 then ((strconv_Itoa.f a0_1).bind fun t140 => (some t140)) else (some a0_2)) = some r := h
 clear h
 by_cases c2 : a0_0 = 3
 ·rw [if_pos c2] at H
  have c2b0 : (a0_0 == 3) = true := beq_iff_eq.mpr c2
  have c2b1 : (a0_0 != 3) = false := bne_eq_false_iff_eq.mpr c2
  clear c2
  replace H := Option.bind_eq_some_iff.mp H
  obtain ⟨t140, A30, H⟩ := H
  replace H : (some t140) = some r := H
  have A3 := Aside0.mk A30
  clear A30
  obtain rfl := Option.some.inj H
  go_enter Tryz.func27, Tryz.ntmps27
  go_wp2_with (first | ((with_reducible refine gate_dst (N := 1) rfl ?_); refine box_event ?hg (N := 1) ?hd (cs := #[.int .i64 a0_0, .int .i64 a0_1, .string a0_2, .int .i64 a0_3, .int .i64 a0_4]) (t := 38) ?hr ?_; (case hd => rfl); (case hg => rfl); (case hr => first | (go_simp; done) | (go_simp; rfl)); intro gb139 hg w4 hbox hb; have n0_ := Aside0.mk (below_step (by repeat (first | (with_reducible first | exact HB.out | apply below_alloc | apply pw_below_drewN | apply below_drew1) | exact HB.out)) hb); have n1_ := Aside0.mk (hbox); have n2_ := Aside0.mk ((by rw [hg]; exact (below_size (by repeat (first | (with_reducible first | exact HB.out | apply below_alloc | apply pw_below_drewN | apply below_drew1) | exact HB.out))) : w.heap.size ≤ gb139)); have n3_ := Aside0.mk ((by rw [hg]; exact (below_size (by repeat (first | (with_reducible first | exact HB.out | apply below_alloc | apply pw_below_drewN | apply below_drew1) | exact HB.out))) : w.heap.size ≤ gb139)); clear HB; have HB := n0_; have BK139 := n1_; have GW139 := n2_; have GE139 := n3_; clear n0_ n1_ n2_ n3_; clear hb hbox hg; have hcz5_0 : w4.cell? ⟨gb139, 0, none⟩ = some (.int .i64 a0_0) := (blk_cell BK139.out 0).trans rfl; have hcz5_1 : w4.cell? ⟨gb139, 1, none⟩ = some (.int .i64 a0_1) := (blk_cell BK139.out 1).trans rfl; have hcz5_2 : w4.cell? ⟨gb139, 2, none⟩ = some (.string a0_2) := (blk_cell BK139.out 2).trans rfl; have hcz5_3 : w4.cell? ⟨gb139, 3, none⟩ = some (.int .i64 a0_3) := (blk_cell BK139.out 3).trans rfl; have hcz5_4 : w4.cell? ⟨gb139, 4, none⟩ = some (.int .i64 a0_4) := (blk_cell BK139.out 4).trans rfl; have hfz5_0 := blk_frozen BK139.out 0; have hfz5_1 := blk_frozen BK139.out 1; have hfz5_2 := blk_frozen BK139.out 2; have hfz5_3 := blk_frozen BK139.out 3; have hfz5_4 := blk_frozen BK139.out 4) | ((with_reducible refine gate_callee (f := 57) rfl ?_); refine goesL_ (some 8) rfl rfl Tryz.func57 (by kernel_rfl) rfl #[.int .i64 a0_1] rfl (by (try simp only [List.map_toArray, List.map_cons, List.map_nil]); first | done | rfl | (simp only [List.length_drop, List.length_take]; rfl)) ?_; (with_reducible refine (strconv_Itoa.calls a0_1 t140 _ A3.out ?side1).mono ?_); (case side1 => exact GL.below HG.out (by repeat (first | (with_reducible first | exact HB.out | apply below_alloc | apply pw_below_drewN | apply below_drew1 | refine below_set ?_ GE139.out) | exact HB.out))); rintro e w6 ⟨rfl, hb⟩; refine ⟨_, rfl, ?_⟩; have n0_ := Aside0.mk (blk_below (g := gb139) (o := .cells #[.int .i64 a0_0, .int .i64 a0_1, .string a0_2, .int .i64 a0_3, .int .i64 a0_4] 38 (0, 0)) (by (with_reducible repeat (first | refine blk_drewN ?_ _ | refine blk_drew ?_ | refine blk_alloc ?_ _)); exact BK139.out) hb); have n1_ := Aside0.mk (below_step (by repeat (first | (with_reducible first | exact HB.out | apply below_alloc | apply pw_below_drewN | apply below_drew1 | refine below_set ?_ GE139.out) | exact HB.out)) hb); clear BK139; clear HB; have BK139 := n0_; have HB := n1_; clear n0_ n1_; (try clear hb); (try clear hb2); (try clear hk); (try clear hi)))
  go_ret
  exact ⟨by first | rfl | (simp [errW_none, errW_some] <;> rfl) | (simp [*, errW_none, errW_some] <;> rfl), by repeat (first | (with_reducible first | exact HB.out | apply below_alloc | apply pw_below_drewN | apply below_drew1 | refine below_set ?_ GE139.out) | exact HB.out)⟩
 ·rw [if_neg c2] at H
  have c2b0 : (a0_0 == 3) = false := beq_eq_false_iff_ne.mpr c2
  have c2b1 : (a0_0 != 3) = true := bne_iff_ne.mpr c2
  obtain rfl := Option.some.inj H
  go_enter Tryz.func27, Tryz.ntmps27
  go_wp2_with (first | ((with_reducible refine gate_dst (N := 1) rfl ?_); refine box_event ?hg (N := 1) ?hd (cs := #[.int .i64 a0_0, .int .i64 a0_1, .string a0_2, .int .i64 a0_3, .int .i64 a0_4]) (t := 38) ?hr ?_; (case hd => rfl); (case hg => rfl); (case hr => first | (go_simp; done) | (go_simp; rfl)); intro gb139 hg w7 hbox hb; have n0_ := Aside0.mk (below_step (by repeat (first | (with_reducible first | exact HB.out | apply below_alloc | apply pw_below_drewN | apply below_drew1) | exact HB.out)) hb); have n1_ := Aside0.mk (hbox); have n2_ := Aside0.mk ((by rw [hg]; exact (below_size (by repeat (first | (with_reducible first | exact HB.out | apply below_alloc | apply pw_below_drewN | apply below_drew1) | exact HB.out))) : w.heap.size ≤ gb139)); have n3_ := Aside0.mk ((by rw [hg]; exact (below_size (by repeat (first | (with_reducible first | exact HB.out | apply below_alloc | apply pw_below_drewN | apply below_drew1) | exact HB.out))) : w.heap.size ≤ gb139)); clear HB; have HB := n0_; have BK139 := n1_; have GW139 := n2_; have GE139 := n3_; clear n0_ n1_ n2_ n3_; clear hb hbox hg; have hcz8_0 : w7.cell? ⟨gb139, 0, none⟩ = some (.int .i64 a0_0) := (blk_cell BK139.out 0).trans rfl; have hcz8_1 : w7.cell? ⟨gb139, 1, none⟩ = some (.int .i64 a0_1) := (blk_cell BK139.out 1).trans rfl; have hcz8_2 : w7.cell? ⟨gb139, 2, none⟩ = some (.string a0_2) := (blk_cell BK139.out 2).trans rfl; have hcz8_3 : w7.cell? ⟨gb139, 3, none⟩ = some (.int .i64 a0_3) := (blk_cell BK139.out 3).trans rfl; have hcz8_4 : w7.cell? ⟨gb139, 4, none⟩ = some (.int .i64 a0_4) := (blk_cell BK139.out 4).trans rfl; have hfz8_0 := blk_frozen BK139.out 0; have hfz8_1 := blk_frozen BK139.out 1; have hfz8_2 := blk_frozen BK139.out 2; have hfz8_3 := blk_frozen BK139.out 3; have hfz8_4 := blk_frozen BK139.out 4))
  go_ret
  exact ⟨by first | rfl | (simp [errW_none, errW_some] <;> rfl) | (simp [*, errW_none, errW_some] <;> rfl), by repeat (first | (with_reducible first | exact HB.out | apply below_alloc | apply pw_below_drewN | apply below_drew1 | refine below_set ?_ GE139.out) | exact HB.out)⟩

/-! ### madrigallaw01_has: function 39 -/
mutual
def madrigallaw01_has.j0 : Nat → List ByteArray → List Int → List (S38) → Bool → Option (Bool)
 | 0, _, _, _, _ => none
 | k + 1, x1, x2, x7, x33 => if x33 = true then (some false) else (madrigallaw01_has.l0 k x1 x2 x7 (x7.length : Int) 0)
def madrigallaw01_has.l0 : Nat → List ByteArray → List Int → List (S38) → Int → Int → Option (Bool)
 | 0, _, _, _, _, _ => none
 | k + 1, x1, x2, x34, x35, x36 => if x36 < x35 then (if 0 ≤ x36 then (if x36 < (x34.length : Int) then ((madrigalref01_Text.f ((rd_T38 x34 x36).f0) ((rd_T38 x34 x36).f1) ((rd_T38 x34 x36).f2) ((rd_T38 x34 x36).f3) ((rd_T38 x34 x36).f4)).bind fun t148 => (if x36 < (x1.length : Int) then (if t148.toList = (rdOf ByteArray.empty x1 x36).toList then (if x36 < (x2.length : Int) then (if ((rd_T38 x34 x36).f3) = (rd x2 x36) then (madrigallaw01_has.l0 k x1 x2 x34 x35 (wrap64 (x36 + 1))) else (some false)) else (none)) else (some false)) else (none))) else (none)) else (none)) else (some true)
end
def madrigallaw01_has.f (k : Nat) (a0 : ByteArray) (l1 : List ByteArray) (l2 : List Int) : Option (Bool) := (lex_Tokens.f a0).bind fun bt141 => (if bt141.2.2 = 0 then (if (bt141.1.length : Int) = (l1.length : Int) then (madrigallaw01_has.j0 k l1 l2 bt141.1 ((l2.length : Int) != (l1.length : Int))) else (madrigallaw01_has.j0 k l1 l2 bt141.1 true)) else (madrigallaw01_has.j0 k l1 l2 bt141.1 true))
theorem madrigallaw01_has.mono_l : ∀ k, (∀ y0 y1 y2 y3, LeO (madrigallaw01_has.j0 k y0 y1 y2 y3) (madrigallaw01_has.j0 (k + 1) y0 y1 y2 y3)) ∧ (∀ y0 y1 y2 y3 y4, LeO (madrigallaw01_has.l0 k y0 y1 y2 y3 y4) (madrigallaw01_has.l0 (k + 1) y0 y1 y2 y3 y4))
 | 0 => ⟨fun _ _ _ _ r h => by simp [madrigallaw01_has.j0] at h, fun _ _ _ _ _ r h => by simp [madrigallaw01_has.l0] at h⟩
 | k + 1 => by
  obtain ⟨ih0, ih1⟩ := madrigallaw01_has.mono_l k
  refine ⟨?_, ?_⟩
  ·intro y0 y1 y2 y3
   unfold madrigallaw01_has.j0
   repeat' first
   | (with_reducible exact ih0 _ _ _ _)
   | (with_reducible exact ih1 _ _ _ _ _)
   | (with_reducible exact LeO.refl _)
   | (with_reducible exact LeO.none _)
   | (with_reducible refine LeO.ite ?_ ?_)
   | (with_reducible refine LeO.bind ?_ (fun _ => ?_))
   | exact ih0 _ _ _ _
   | exact ih1 _ _ _ _ _
   | exact LeO.none _
   | refine LeO.ite ?_ ?_
   | refine LeO.bind ?_ (fun _ => ?_)
  ·intro y0 y1 y2 y3 y4
   unfold madrigallaw01_has.l0
   repeat' first
   | (with_reducible exact ih0 _ _ _ _)
   | (with_reducible exact ih1 _ _ _ _ _)
   | (with_reducible exact LeO.refl _)
   | (with_reducible exact LeO.none _)
   | (with_reducible refine LeO.ite ?_ ?_)
   | (with_reducible refine LeO.bind ?_ (fun _ => ?_))
   | exact ih0 _ _ _ _
   | exact ih1 _ _ _ _ _
   | exact LeO.none _
   | refine LeO.ite ?_ ?_
   | refine LeO.bind ?_ (fun _ => ?_)
theorem madrigallaw01_has.mono : ∀ a0 a1 a2 k, LeO (madrigallaw01_has.f k a0 a1 a2) (madrigallaw01_has.f (k + 1) a0 a1 a2) := by
 intro a0 a1 a2 k
 obtain ⟨ih0, ih1⟩ := madrigallaw01_has.mono_l k
 unfold madrigallaw01_has.f
 repeat' first
   | (with_reducible exact ih0 _ _ _ _)
   | (with_reducible exact ih1 _ _ _ _ _)
   | (with_reducible exact LeO.refl _)
   | (with_reducible exact LeO.none _)
   | (with_reducible refine LeO.ite ?_ ?_)
   | (with_reducible refine LeO.bind ?_ (fun _ => ?_))
   | exact ih0 _ _ _ _
   | exact ih1 _ _ _ _ _
   | exact LeO.none _
   | refine LeO.ite ?_ ?_
   | refine LeO.bind ?_ (fun _ => ?_)
def madrigallaw01_has.T7 : Bool × List (List Nat × List Nat) := (true, [([], []), ([0], [0]), ([], []), ([], []), ([2, 3], [2, 3]), ([4], [4]), ([1, 5], [1, 5]), ([6, 1], [6]), ([7], [7]), ([8, 7], [7, 8]), ([7], [7]), ([7], [7]), ([10, 11, 7], [7, 10, 11]), ([12, 7], [7, 12]), ([9, 13, 7], [7, 9, 13]), ([7, 14], [7, 14])])
def madrigallaw01_has.B7 : List Nat := [0, 1, 0, 0, 12, 28, 63, 127, 255, 511, 255, 255, 3327, 7423, 16383, 32767]
theorem madrigallaw01_has.tab7 : rtab .any (opsOf Tryz.f39 7) = madrigallaw01_has.T7 := by kernel_rfl
theorem madrigallaw01_has.bits7 : waitsOk madrigallaw01_has.T7.2 madrigallaw01_has.B7 = true := by kernel_rfl
set_option maxHeartbeats 8000000 in
set_option maxRecDepth 100000 in
theorem madrigallaw01_has.calls (k : Nat) (a0 : ByteArray) (A1 : Option Addr) (c1 : Nat) (l1 : List ByteArray) (A2 : Option Addr) (c2 : Nat) (l2 : List Int) (r : Bool) (w : World) (hr1 : Kd.C Kd.string w A1 l1.length l1) (hc1 : l1.length ≤ c1) (hr2 : Kd.C (Kd.int .i64) w A2 l2.length l2) (hc2 : l2.length ≤ c2) (h : madrigallaw01_has.f k a0 l1 l2 = some r) (hG : GL w) :
  Calls Tryz.prog 39 #[.string a0, .slice A1 l1.length c1, .slice A2 l2.length c2] w fun e w' => e = .returned (.bool r) ∧ Below w.heap.size w w' := by
 have hu38 := Tryz.underlying38
 have HG := Aside0.mk hG
 clear hG
 have HR1 := Aside0.mk hr1
 have HC1 := Aside0.mk hc1
 clear hr1 hc1
 have HR2 := Aside0.mk hr2
 have HC2 := Aside0.mk hc2
 clear hr2 hc2
 have HB := Aside0.mk (Below.refl w.heap.size w)
 have H : ((lex_Tokens.f a0).bind fun bt141 => (if bt141.2.2 = 0 then (if (bt141.1.length : Int) = (l1.length : Int) then (madrigallaw01_has.j0 k l1 l2 bt141.1 ((l2.length : Int) != (l1.length : Int))) else (madrigallaw01_has.j0 k l1 l2 bt141.1 true)) else (madrigallaw01_has.j0 k l1 l2 bt141.1 true))) = some r := h
 clear h
 replace H := Option.bind_eq_some_iff.mp H
 obtain ⟨⟨t141, t142, t143⟩, A40, H⟩ := H
 replace H : (if t143 = 0 then (if (t141.length : Int) = (l1.length : Int) then (madrigallaw01_has.j0 k l1 l2 t141 ((l2.length : Int) != (l1.length : Int))) else (madrigallaw01_has.j0 k l1 l2 t141 true)) else (madrigallaw01_has.j0 k l1 l2 t141 true)) = some r := H
 have A4 := Aside0.mk A40
 clear A40
 have HC5 := Aside0.mk H
 clear H
 go_enter Tryz.func39, Tryz.ntmps39
 go_upto_region 2 with (first | ((with_reducible refine gate_callee (f := 13) rfl ?_); refine goesL_ (some 14) rfl rfl Tryz.func13 (by kernel_rfl) rfl #[.string a0] rfl (by (try simp only [List.map_toArray, List.map_cons, List.map_nil]); first | done | rfl | (simp only [List.length_drop, List.length_take]; rfl)) ?_; (with_reducible refine (lex_Tokens.calls a0 t141 t142 t143 _ A4.out ?side1).mono ?_); (case side1 => exact GL.below HG.out (by repeat (first | (with_reducible first | exact HB.out | apply below_alloc | apply pw_below_drewN | apply below_drew1) | exact HB.out))); rintro e w6 ⟨v144, rfl, ho0, hb⟩; refine ⟨_, rfl, ?_⟩; have n0_ := Aside0.mk (Kd.R_lower ho0 (below_size (by repeat (first | (with_reducible first | exact HB.out | apply below_alloc | apply pw_below_drewN | apply below_drew1) | exact HB.out)))); have n1_ := Aside0.mk (below_step (by repeat (first | (with_reducible first | exact HB.out | apply below_alloc | apply pw_below_drewN | apply below_drew1) | exact HB.out)) hb); clear HB; have HO145 := n0_; have HB := n1_; clear n0_ n1_; (try clear hb); (try clear hb2); (try clear hk); (try clear hi); (try clear ho0)))
 (try simp only [Act.put, List.setIfInBounds_toArray, List.set_cons_zero, List.set_cons_succ])
 go_cut [33] (fun v33 wc => ∃ (kq : Nat) (x33_4 : Bool), v33 = .bool x33_4 ∧ Aside0 (madrigallaw01_has.j0 kq l1 l2 t141 x33_4 = some r) ∧ Aside0 (kq ≤ k) ∧ Aside0 (Kd.R k38 38 wc w.heap.size (fun _ => True) v144 t141) ∧ Aside0 (Below w.heap.size w wc))
 case first =>
  have H := HC5.out
  clear HC5
  by_cases c7 : t143 = 0
  ·rw [if_pos c7] at H
   have c7b0 : (t143 == 0) = true := beq_iff_eq.mpr c7
   have c7b1 : (t143 != 0) = false := bne_eq_false_iff_eq.mpr c7
   clear c7
   (first | rw [c7b0] | (simp only [i64_w, i32_w]; rw [c7b0]) | skip)
   by_cases c8 : (t141.length : Int) = (l1.length : Int)
   ·rw [if_pos c8] at H
    have c8b0 : ((t141.length : Int) == (l1.length : Int)) = true := beq_iff_eq.mpr c8
    have c8b1 : ((t141.length : Int) != (l1.length : Int)) = false := bne_eq_false_iff_eq.mpr c8
    have c8b2 : (t141.length == l1.length) = true := by first | simpa using c8 | (simp at c8 ⊢; omega)
    clear c8
    have H' := Aside0.mk H
    clear H
    obtain ⟨Ao9, co9, eo9⟩ := Kd.R_slice HO145.out
    subst eo9
    go_wp2
    go_meet
    case rel => exact ⟨_, (((l2.length : Int) != (l1.length : Int))), (by first | rfl | (simp; done) | (simp [*]; done)), H', ⟨by first | omega | exact Nat.le_refl _⟩, ⟨by (with_reducible repeat (first | apply Kd.R_alloc | apply Kd.R_drewN | apply Kd.R_drew)); exact HO145.out⟩, ⟨by repeat (first | (with_reducible first | exact HB.out | apply below_alloc | apply pw_below_drewN | apply below_drew1) | exact HB.out)⟩⟩
   ·rw [if_neg c8] at H
    have c8b0 : ((t141.length : Int) == (l1.length : Int)) = false := beq_eq_false_iff_ne.mpr c8
    have c8b1 : ((t141.length : Int) != (l1.length : Int)) = true := bne_iff_ne.mpr c8
    have c8b2 : (t141.length == l1.length) = false := by first | simpa using c8 | (simp at c8 ⊢; omega)
    have H' := Aside0.mk H
    clear H
    obtain ⟨Ao10, co10, eo10⟩ := Kd.R_slice HO145.out
    subst eo10
    go_wp2
    go_meet
    case rel => exact ⟨_, (true), (by first | rfl | (simp; done) | (simp [*]; done)), H', ⟨by first | omega | exact Nat.le_refl _⟩, ⟨by (with_reducible repeat (first | apply Kd.R_alloc | apply Kd.R_drewN | apply Kd.R_drew)); exact HO145.out⟩, ⟨by repeat (first | (with_reducible first | exact HB.out | apply below_alloc | apply pw_below_drewN | apply below_drew1) | exact HB.out)⟩⟩
  ·rw [if_neg c7] at H
   have c7b0 : (t143 == 0) = false := beq_eq_false_iff_ne.mpr c7
   have c7b1 : (t143 != 0) = true := bne_iff_ne.mpr c7
   (first | rw [c7b0] | (simp only [i64_w, i32_w]; rw [c7b0]) | skip)
   have H' := Aside0.mk H
   clear H
   go_wp2
   go_meet
   case rel => exact ⟨_, (true), (by first | rfl | (simp; done) | (simp [*]; done)), H', ⟨by first | omega | exact Nat.le_refl _⟩, ⟨by (with_reducible repeat (first | apply Kd.R_alloc | apply Kd.R_drewN | apply Kd.R_drew)); exact HO145.out⟩, ⟨by repeat (first | (with_reducible first | exact HB.out | apply below_alloc | apply pw_below_drewN | apply below_drew1) | exact HB.out)⟩⟩
 case rest =>
  clear HC5
  try clear c1
  try clear c2
  try clear p2
  try clear c3
  try clear c7
  try clear c7b0
  try clear c7b1
  try clear c8
  try clear c8b0
  try clear c8b1
  try clear c8b2
  obtain ⟨kq, x33_4, rfl, HA, HJ4, HO_7, HB⟩ := hcut
  cases kq with
  | zero => exact absurd HA.out (by simp [madrigallaw01_has.j0])
  | succ kj4 =>
   have H := HA.out
   clear HA
   simp only [madrigallaw01_has.j0] at H
   by_cases c11 : x33_4 = true
   ·subst c11
    have H1 : (some false) = some r := by rw [if_pos rfl] at H; exact H
    clear H
    have H := H1
    clear H1
    obtain rfl := Option.some.inj H
    go_wp2
    go_ret
    exact ⟨by first | rfl | (simp [errW_none, errW_some] <;> rfl) | (simp [*, errW_none, errW_some] <;> rfl), by repeat (first | (with_reducible first | exact HB.out | apply below_alloc | apply pw_below_drewN | apply below_drew1) | exact HB.out)⟩
   ·replace c11 := Bool.eq_false_iff.mpr c11
    subst c11
    have H1 : (madrigallaw01_has.l0 kj4 l1 l2 t141 (t141.length : Int) 0) = some r := by rw [if_neg (show ¬ (false = true) by decide)] at H; exact H
    clear H
    have H := H1
    clear H1
    have H' := Aside0.mk H
    clear H
    obtain ⟨Ao12, co12, eo12⟩ := Kd.R_slice HO_7.out
    subst eo12
    go_wp2
    go_loopg [36] kj4 (fun kq v36 w' => ∃ (x36_2 : Int), v36 = .int .i64 x36_2 ∧ Aside0 (madrigallaw01_has.l0 kq l1 l2 t141 (t141.length : Int) x36_2 = some r) ∧ Aside0 (kq ≤ kj4) ∧ Aside0 (Kd.R k38 38 w' w.heap.size (fun _ => True) (.slice Ao12 t141.length co12) t141) ∧ Aside0 (Below w.heap.size w w'))
    case atStart => exact ⟨(0), (by first | rfl | (simp; done) | (simp [*]; done)), H', ⟨Nat.le_refl _⟩, ⟨by (with_reducible repeat (first | apply Kd.R_alloc | apply Kd.R_drewN | apply Kd.R_drew)); exact HO_7.out⟩, ⟨by repeat (first | (with_reducible first | exact HB.out | apply below_alloc | apply pw_below_drewN | apply below_drew1) | exact HB.out)⟩⟩
    case round =>
     clear H'
     try clear c1
     try clear c2
     try clear p2
     try clear c3
     try clear c7
     try clear c7b0
     try clear c7b1
     try clear c8
     try clear c8b0
     try clear c8b1
     try clear c8b2
     try clear c11
     try clear p2
     obtain ⟨x36_2, rfl, HA, HK2, HO_34, HB⟩ := hrel
     cases gk with
     | zero => exact absurd HA.out (by simp [madrigallaw01_has.l0])
     | succ k2 =>
      have H := HA.out
      clear HA
      simp only [madrigallaw01_has.l0] at H
      by_cases c13 : x36_2 < (t141.length : Int)
      ·rw [if_pos c13] at H
       have c13b0 : decide (x36_2 < (t141.length : Int)) = true := decide_eq_true c13
       clear c13
       by_cases c14 : 0 ≤ x36_2
       ·rw [if_pos c14] at H
        have c14b0 : decide (0 ≤ x36_2) = true := decide_eq_true c14
        clear c14
        by_cases c15 : x36_2 < (t141.length : Int)
        ·rw [if_pos c15] at H
         have c15b0 : decide (x36_2 < (t141.length : Int)) = true := decide_eq_true c15
         clear c15
         replace H := Option.bind_eq_some_iff.mp H
         obtain ⟨t148, A160, H⟩ := H
         replace H : (if x36_2 < (l1.length : Int) then (if t148.toList = (rdOf ByteArray.empty l1 x36_2).toList then (if x36_2 < (l2.length : Int) then (if ((rd_T38 t141 x36_2).f3) = (rd l2 x36_2) then (madrigallaw01_has.l0 k2 l1 l2 t141 (t141.length : Int) (wrap64 (x36_2 + 1))) else (some false)) else (none)) else (some false)) else (none)) = some r := H
         have A16 := Aside0.mk A160
         clear A160
         by_cases c17 : x36_2 < (l1.length : Int)
         ·rw [if_pos c17] at H
          have c17b0 : decide (x36_2 < (l1.length : Int)) = true := decide_eq_true c17
          clear c17
          by_cases c18 : t148.toList = (rdOf ByteArray.empty l1 x36_2).toList
          ·rw [if_pos c18] at H
           have c18b0 : (t148.toList == (rdOf ByteArray.empty l1 x36_2).toList) = true := beq_iff_eq.mpr c18
           have c18b1 : (t148.toList != (rdOf ByteArray.empty l1 x36_2).toList) = false := bne_eq_false_iff_eq.mpr c18
           clear c18
           by_cases c19 : x36_2 < (l2.length : Int)
           ·rw [if_pos c19] at H
            have c19b0 : decide (x36_2 < (l2.length : Int)) = true := decide_eq_true c19
            clear c19
            by_cases c20 : ((rd_T38 t141 x36_2).f3) = (rd l2 x36_2)
            ·rw [if_pos c20] at H
             have c20b0 : (((rd_T38 t141 x36_2).f3) == (rd l2 x36_2)) = true := beq_iff_eq.mpr c20
             have c20b1 : (((rd_T38 t141 x36_2).f3) != (rd l2 x36_2)) = false := bne_eq_false_iff_eq.mpr c20
             clear c20
             have H' := Aside0.mk H
             clear H
             have p146 : 0 ≤ (x36_2 : Int) := of_decide_eq_true (by first | (with_reducible assumption) | assumption)
             have q146 : x36_2 < (t141.length : Int) := of_decide_eq_true (by first | (with_reducible assumption) | assumption)
             obtain ⟨ad146, e146, hx146_0, hx146_1, hx146_2, hx146_3, hx146_4⟩ := at_T38 (Kd.R_reads' HO_34.out).2.2 x36_2 p146 q146
             cases e146
             replace p146 := eq_true p146
             replace q146 := eq_true q146
             try go_wp2_with (first | ((with_reducible refine gate_dst (N := 11) rfl ?_); (try (refine gate_guard (by rfl) ?_; dsimp only)); refine box_event ?hg (N := 11) ?hd (cs := #[.int .i64 0, .int .i64 0, .string (⟨#[]⟩ : ByteArray), .int .i64 0, .int .i64 0]) (t := 38) ?hr ?_; (case hd => rfl); (case hg => rfl); (case hr => first | (go_simp; done) | (go_simp; rfl)); intro gb147 hg w21 hbox hb; have n0_ := Aside0.mk (Kd.R_below (Kd.R_elderB (by (with_reducible repeat (first | apply Kd.R_alloc | apply Kd.R_drewN | apply Kd.R_drew)); exact HO_34.out) gb147 (Nat.le_of_eq hg.symm)) hb); have n1_ := Aside0.mk (below_step (by repeat (first | (with_reducible first | exact HB.out | apply below_alloc | apply pw_below_drewN | apply below_drew1) | exact HB.out)) hb); have n2_ := Aside0.mk (hbox); have n3_ := Aside0.mk ((by rw [hg]; exact (below_size (by repeat (first | (with_reducible first | exact HB.out | apply below_alloc | apply pw_below_drewN | apply below_drew1) | exact HB.out))) : w.heap.size ≤ gb147)); have n4_ := Aside0.mk ((by rw [hg]; exact (below_size (by repeat (first | (with_reducible first | exact HB.out | apply below_alloc | apply pw_below_drewN | apply below_drew1) | exact HB.out))) : w.heap.size ≤ gb147)); clear HO_34; clear HB; have HO_34 := n0_; have HB := n1_; have BK147 := n2_; have GW147 := n3_; have GE147 := n4_; clear n0_ n1_ n2_ n3_ n4_; clear hb hbox hg; have hcz22_0 : w21.cell? ⟨gb147, 0, none⟩ = some (.int .i64 0) := (blk_cell BK147.out 0).trans rfl; have hcz22_1 : w21.cell? ⟨gb147, 1, none⟩ = some (.int .i64 0) := (blk_cell BK147.out 1).trans rfl; have hcz22_2 : w21.cell? ⟨gb147, 2, none⟩ = some (.string (⟨#[]⟩ : ByteArray)) := (blk_cell BK147.out 2).trans rfl; have hcz22_3 : w21.cell? ⟨gb147, 3, none⟩ = some (.int .i64 0) := (blk_cell BK147.out 3).trans rfl; have hcz22_4 : w21.cell? ⟨gb147, 4, none⟩ = some (.int .i64 0) := (blk_cell BK147.out 4).trans rfl; have hfz22_0 := blk_frozen BK147.out 0; have hfz22_1 := blk_frozen BK147.out 1; have hfz22_2 := blk_frozen BK147.out 2; have hfz22_3 := blk_frozen BK147.out 3; have hfz22_4 := blk_frozen BK147.out 4))
             have n0_ : Aside0 (Kd.R k38 38 (((((w21.setCell ⟨gb147, 0, none⟩ (.int .i64 ((rd_T38 t141 x36_2).f0))).setCell ⟨gb147, 1, none⟩ (.int .i64 ((rd_T38 t141 x36_2).f1))).setCell ⟨gb147, 2, none⟩ (.string ((rd_T38 t141 x36_2).f2))).setCell ⟨gb147, 3, none⟩ (.int .i64 ((rd_T38 t141 x36_2).f3))).setCell ⟨gb147, 4, none⟩ (.int .i64 ((rd_T38 t141 x36_2).f4))) w.heap.size (fun k_ => k_ ≠ gb147) (.slice (some ad146) t141.length co12) t141) := ⟨by (with_reducible repeat (first | apply Kd.R_alloc | apply Kd.R_drewN | apply Kd.R_drew)); exact Kd.R_mono (Kd.R_far (p := ⟨gb147, 4, none⟩) (Kd.R_far (p := ⟨gb147, 3, none⟩) (Kd.R_far (p := ⟨gb147, 2, none⟩) (Kd.R_far (p := ⟨gb147, 1, none⟩) (Kd.R_far (p := ⟨gb147, 0, none⟩) (Kd.R_mono HO_34.out (fun k_ hk => (⟨hk, hk.2⟩ : _ ∧ k_ ≠ gb147))) (fun _ hk => hk.2) (.int .i64 ((rd_T38 t141 x36_2).f0))) (fun _ hk => hk.2) (.int .i64 ((rd_T38 t141 x36_2).f1))) (fun _ hk => hk.2) (.string ((rd_T38 t141 x36_2).f2))) (fun _ hk => hk.2) (.int .i64 ((rd_T38 t141 x36_2).f3))) (fun _ hk => hk.2) (.int .i64 ((rd_T38 t141 x36_2).f4))) (fun _ hk => hk.1.2)⟩
             have n1_ : Aside0 ((((((w21.setCell ⟨gb147, 0, none⟩ (.int .i64 ((rd_T38 t141 x36_2).f0))).setCell ⟨gb147, 1, none⟩ (.int .i64 ((rd_T38 t141 x36_2).f1))).setCell ⟨gb147, 2, none⟩ (.string ((rd_T38 t141 x36_2).f2))).setCell ⟨gb147, 3, none⟩ (.int .i64 ((rd_T38 t141 x36_2).f3))).setCell ⟨gb147, 4, none⟩ (.int .i64 ((rd_T38 t141 x36_2).f4))).heap[gb147]? = some (.cells #[.int .i64 ((rd_T38 t141 x36_2).f0), .int .i64 ((rd_T38 t141 x36_2).f1), .string ((rd_T38 t141 x36_2).f2), .int .i64 ((rd_T38 t141 x36_2).f3), .int .i64 ((rd_T38 t141 x36_2).f4)] 38 (0, 0))) := ⟨by (with_reducible repeat (first | refine blk_drewN ?_ _ | refine blk_drew ?_ | refine blk_alloc ?_ _)); refine blk_put (cs := #[.int .i64 ((rd_T38 t141 x36_2).f0), .int .i64 ((rd_T38 t141 x36_2).f1), .string ((rd_T38 t141 x36_2).f2), .int .i64 ((rd_T38 t141 x36_2).f3), .int .i64 0]) ?_ 4 _ rfl; (with_reducible repeat (first | refine blk_drewN ?_ _ | refine blk_drew ?_ | refine blk_alloc ?_ _)); refine blk_put (cs := #[.int .i64 ((rd_T38 t141 x36_2).f0), .int .i64 ((rd_T38 t141 x36_2).f1), .string ((rd_T38 t141 x36_2).f2), .int .i64 0, .int .i64 0]) ?_ 3 _ rfl; (with_reducible repeat (first | refine blk_drewN ?_ _ | refine blk_drew ?_ | refine blk_alloc ?_ _)); refine blk_put (cs := #[.int .i64 ((rd_T38 t141 x36_2).f0), .int .i64 ((rd_T38 t141 x36_2).f1), .string (⟨#[]⟩ : ByteArray), .int .i64 0, .int .i64 0]) ?_ 2 _ rfl; (with_reducible repeat (first | refine blk_drewN ?_ _ | refine blk_drew ?_ | refine blk_alloc ?_ _)); refine blk_put (cs := #[.int .i64 ((rd_T38 t141 x36_2).f0), .int .i64 0, .string (⟨#[]⟩ : ByteArray), .int .i64 0, .int .i64 0]) ?_ 1 _ rfl; (with_reducible repeat (first | refine blk_drewN ?_ _ | refine blk_drew ?_ | refine blk_alloc ?_ _)); refine blk_put (cs := #[.int .i64 0, .int .i64 0, .string (⟨#[]⟩ : ByteArray), .int .i64 0, .int .i64 0]) ?_ 0 _ rfl; (with_reducible repeat (first | refine blk_drewN ?_ _ | refine blk_drew ?_ | refine blk_alloc ?_ _)); exact BK147.out⟩
             have n2_ : Aside0 (Below w.heap.size w (((((w21.setCell ⟨gb147, 0, none⟩ (.int .i64 ((rd_T38 t141 x36_2).f0))).setCell ⟨gb147, 1, none⟩ (.int .i64 ((rd_T38 t141 x36_2).f1))).setCell ⟨gb147, 2, none⟩ (.string ((rd_T38 t141 x36_2).f2))).setCell ⟨gb147, 3, none⟩ (.int .i64 ((rd_T38 t141 x36_2).f3))).setCell ⟨gb147, 4, none⟩ (.int .i64 ((rd_T38 t141 x36_2).f4)))) := ⟨by repeat (first | (with_reducible first | exact HB.out | apply below_alloc | apply pw_below_drewN | apply below_drew1 | refine below_set ?_ GE147.out) | exact HB.out)⟩
             (try clear HO_34)
             (try clear BK147)
             (try clear HB)
             generalize (((((w21.setCell ⟨gb147, 0, none⟩ (.int .i64 ((rd_T38 t141 x36_2).f0))).setCell ⟨gb147, 1, none⟩ (.int .i64 ((rd_T38 t141 x36_2).f1))).setCell ⟨gb147, 2, none⟩ (.string ((rd_T38 t141 x36_2).f2))).setCell ⟨gb147, 3, none⟩ (.int .i64 ((rd_T38 t141 x36_2).f3))).setCell ⟨gb147, 4, none⟩ (.int .i64 ((rd_T38 t141 x36_2).f4))) = w23 at n0_ n1_ n2_ ⊢
             have HO_34 := n0_
             have BK147 := n1_
             have HB := n2_
             clear n0_ n1_ n2_
             replace HO_34 := Aside0.mk (Kd.R_drew HO_34.out)
             replace BK147 := Aside0.mk (blk_drew BK147.out)
             replace HB := Aside0.mk (below_drew1 HB.out)
             have p149 : 0 ≤ (x36_2 : Int) := of_decide_eq_true (by first | (with_reducible assumption) | assumption)
             have q149 : x36_2 < (l1.length : Int) := of_decide_eq_true (by first | (with_reducible assumption) | assumption)
             obtain ⟨ad149, e149, hx149_0⟩ := Kd.at_string HR1.out x36_2 p149 q149
             have hw149_0 := hx149_0
             cases e149
             replace hx149_0 := (HB.out.cell (World.block_lt_of_cell? w _ hx149_0)).trans hx149_0
             replace p149 := eq_true p149
             replace q149 := eq_true q149
             have p150 : 0 ≤ (x36_2 : Int) := of_decide_eq_true (by first | (with_reducible assumption) | assumption)
             have q150 : x36_2 < (l2.length : Int) := of_decide_eq_true (by first | (with_reducible assumption) | assumption)
             obtain ⟨ad150, e150, hx150_0⟩ := Kd.at_int HR2.out x36_2 p150 q150
             have hw150_0 := hx150_0
             cases e150
             replace hx150_0 := (HB.out.cell (World.block_lt_of_cell? w _ hx150_0)).trans hx150_0
             replace p150 := eq_true p150
             replace q150 := eq_true q150
             refine start_ (n := 16) (S := fun w' => w'.cell? ⟨gb147, 0, none⟩ = some (.int .i64 ((rd_T38 t141 x36_2).f0)) ∧ w'.cell? ⟨gb147, 1, none⟩ = some (.int .i64 ((rd_T38 t141 x36_2).f1)) ∧ w'.cell? ⟨gb147, 2, none⟩ = some (.string ((rd_T38 t141 x36_2).f2)) ∧ w'.cell? ⟨gb147, 3, none⟩ = some (.int .i64 ((rd_T38 t141 x36_2).f3)) ∧ w'.cell? ⟨gb147, 4, none⟩ = some (.int .i64 ((rd_T38 t141 x36_2).f4)) ∧ w'.cell? (ad149.add (x36_2).toNat) = some (.string (rdOf ByteArray.empty l1 x36_2)) ∧ w'.cell? (ad150.add (x36_2).toNat) = some (.int .i64 (rd l2 x36_2))) (ds := []) #[X,X,X,X,X,X,X,X,X,X,X,X,X,X,X,X] (by kernel_rfl) rfl rfl ⟨(blk_cell BK147.out 0).trans rfl, (blk_cell BK147.out 1).trans rfl, (blk_cell BK147.out 2).trans rfl, (blk_cell BK147.out 3).trans rfl, (blk_cell BK147.out 4).trans rfl, ((HB.out.cell (World.block_lt_of_cell? w _ hw149_0)).trans hw149_0), ((HB.out.cell (World.block_lt_of_cell? w _ hw150_0)).trans hw150_0)⟩ (fun hHeld => ?_); refine with_tabW madrigallaw01_has.tab7 madrigallaw01_has.bits7 (fun HT_ HW_ => ?_)
             generalize w23.drew = w24 at HO_34 BK147 HB hx149_0 hx150_0 hHeld ⊢
             refine pure_ (i := 2) (N := some 43) (v := ?_) (a' := ?_) #[X,X,Y,X,X,X,X,X,X,X,X,X,X,X,X,X] rfl rfl (any_of HT_.out (by kernel_rfl)) (fun _ _ _ h => h) (Or.inl ⟨by rfl, ?_⟩) ?_ ?_
             rotate_left
             ·intro w'
              go_simp
              with_reducible rfl
             rotate_left
             ·simp only [qa_]
              rfl
             refine pure_ (i := 3) (N := some 44) (v := ?_) (a' := ?_) #[X,X,Y,Y,X,X,X,X,X,X,X,X,X,X,X,X] rfl rfl (any_of HT_.out (by kernel_rfl)) (fun _ _ _ h => h) (Or.inl ⟨by rfl, ?_⟩) ?_ ?_
             rotate_left
             ·intro w'
              go_simp
              with_reducible rfl
             rotate_left
             ·simp only [qa_]
              rfl
             refine pure_ (i := 4) (N := some 45) (v := ?_) (a' := ?_) #[X,X,Y,Y,Y,X,X,X,X,X,X,X,X,X,X,X] rfl rfl (any_of HT_.out (by kernel_rfl)) (fun _ _ _ h => h) (Or.inl ⟨by rfl, ?_⟩) ?_ ?_
             rotate_left
             ·intro w'
              go_simp
              with_reducible rfl
             rotate_left
             ·simp only [qa_]
              rfl
             refine take_ (i := 0) (N := some 41) (v := ?_) (a' := ?_) #[Y,X,Y,Y,Y,X,X,X,X,X,X,X,X,X,X,X] rfl rfl (take_ofW HT_.out HW_.out (by kernel_rfl)) (fun _ _ _ h => h) (Or.inl ⟨by rfl, ?_⟩) hHeld ?_ ?_
             rotate_left
             ·rintro w' ⟨s0, s1, s2, s3, s4, s5, s6⟩
              go_simp
              with_reducible rfl
             rotate_left
             ·simp only [qa_]
              rfl
             refine take_ (i := 5) (N := some 46) (v := ?_) (a' := ?_) #[Y,X,Y,Y,Y,Y,X,X,X,X,X,X,X,X,X,X] rfl rfl (take_ofW HT_.out HW_.out (by kernel_rfl)) (fun _ _ _ h => h) (Or.inl ⟨by rfl, ?_⟩) hHeld ?_ ?_
             rotate_left
             ·rintro w' ⟨s0, s1, s2, s3, s4, s5, s6⟩
              go_simp
              with_reducible rfl
             rotate_left
             ·simp only [qa_]
              rfl
             refine one_ (i := 1) (N := some 42) #[Y,Y,Y,Y,Y,Y,X,X,X,X,X,X,X,X,X,X] rfl rfl (one_of HT_.out (by kernel_rfl)) (by decide) (fun K hK => ?_)
             refine goes_ Tryz.func27 (by kernel_rfl) rfl #[.agg #[.int .i64 ((rd_T38 t141 x36_2).f0), .int .i64 ((rd_T38 t141 x36_2).f1), .string ((rd_T38 t141 x36_2).f2), .int .i64 ((rd_T38 t141 x36_2).f3), .int .i64 ((rd_T38 t141 x36_2).f4)]] (by rfl) rfl rfl (by (try simp only [List.map_toArray, List.map_cons, List.map_nil]); first | done | rfl | (simp only [List.length_drop, List.length_take]; rfl)) ?_
             with_reducible refine (madrigalref01_Text.calls ((rd_T38 t141 x36_2).f0) ((rd_T38 t141 x36_2).f1) ((rd_T38 t141 x36_2).f2) ((rd_T38 t141 x36_2).f3) ((rd_T38 t141 x36_2).f4) t148 _ A16.out ?side1).mono ?_
             (case side1 => exact GL.below HG.out (by repeat (first | (with_reducible first | exact HB.out | apply below_alloc | apply pw_below_drewN | apply below_drew1 | refine below_set ?_ GE147.out) | exact HB.out)))
             rintro e w25 ⟨rfl, hb⟩
             refine ⟨_, rfl, ?_⟩
             replace HO_34 := Aside0.mk (Kd.R_below (by (with_reducible repeat (first | apply Kd.R_alloc | apply Kd.R_drewN | apply Kd.R_drew)); exact HO_34.out) hb)
             replace BK147 := Aside0.mk (blk_below (g := gb147) (o := .cells #[.int .i64 ((rd_T38 t141 x36_2).f0), .int .i64 ((rd_T38 t141 x36_2).f1), .string ((rd_T38 t141 x36_2).f2), .int .i64 ((rd_T38 t141 x36_2).f3), .int .i64 ((rd_T38 t141 x36_2).f4)] 38 (0, 0)) (by (with_reducible repeat (first | refine blk_drewN ?_ _ | refine blk_drew ?_ | refine blk_alloc ?_ _)); exact BK147.out) hb)
             replace HB := Aside0.mk (below_step (by repeat (first | (with_reducible first | exact HB.out | apply below_alloc | apply pw_below_drewN | apply below_drew1 | refine below_set ?_ GE147.out) | exact HB.out)) hb)
             (try clear hb); (try clear hb2); (try clear hk); (try clear hi)
             refine hK.out _ _ ⟨(blk_cell BK147.out 0).trans rfl, (blk_cell BK147.out 1).trans rfl, (blk_cell BK147.out 2).trans rfl, (blk_cell BK147.out 3).trans rfl, (blk_cell BK147.out 4).trans rfl, ((HB.out.cell (World.block_lt_of_cell? w _ hw149_0)).trans hw149_0), ((HB.out.cell (World.block_lt_of_cell? w _ hw150_0)).trans hw150_0)⟩ (fun hHeld => ?_)
             clear hK K
             refine norm_ (a' := ?_) ?_ ?_
             rotate_left
             ·show Act.put _ (some 42) _ = _
              simp only [qa_]
              rfl
             refine pure_ (i := 6) (N := some 47) (v := ?_) (a' := ?_) #[Y,Y,Y,Y,Y,Y,Y,X,X,X,X,X,X,X,X,X] rfl rfl (any_of HT_.out (by kernel_rfl)) (fun _ _ _ h => h) (Or.inl ⟨by rfl, ?_⟩) ?_ ?_
             rotate_left
             ·intro w'
              go_simp
              with_reducible rfl
             rotate_left
             ·simp only [qa_]
              rfl
             refine pure_ (i := 7) (N := some 48) (v := ?_) (a' := ?_) #[Y,Y,Y,Y,Y,Y,Y,Y,X,X,X,X,X,X,X,X] rfl rfl (any_of HT_.out (by kernel_rfl)) (fun _ _ _ h => h) (Or.inl ⟨by rfl, ?_⟩) ?_ ?_
             rotate_left
             ·intro w'
              go_simp
              with_reducible rfl
             rotate_left
             ·simp only [qa_]
              rfl
             refine pure_ (i := 8) (N := some 49) (v := ?_) (a' := ?_) #[Y,Y,Y,Y,Y,Y,Y,Y,Y,X,X,X,X,X,X,X] rfl rfl (any_of HT_.out (by kernel_rfl)) (fun _ _ _ h => h) (Or.inl ⟨by rfl, ?_⟩) ?_ ?_
             rotate_left
             ·intro w'
              go_simp
              with_reducible rfl
             rotate_left
             ·simp only [qa_]
              rfl
             refine pure_ (i := 10) (N := some 51) (v := ?_) (a' := ?_) #[Y,Y,Y,Y,Y,Y,Y,Y,Y,X,Y,X,X,X,X,X] rfl rfl (any_of HT_.out (by kernel_rfl)) (fun _ _ _ h => h) (Or.inl ⟨by rfl, ?_⟩) ?_ ?_
             rotate_left
             ·intro w'
              go_simp
              with_reducible rfl
             rotate_left
             ·simp only [qa_]
              rfl
             refine pure_ (i := 11) (N := some 52) (v := ?_) (a' := ?_) #[Y,Y,Y,Y,Y,Y,Y,Y,Y,X,Y,Y,X,X,X,X] rfl rfl (any_of HT_.out (by kernel_rfl)) (fun _ _ _ h => h) (Or.inl ⟨by rfl, ?_⟩) ?_ ?_
             rotate_left
             ·intro w'
              go_simp
              with_reducible rfl
             rotate_left
             ·simp only [qa_]
              rfl
             refine pure_ (i := 12) (N := some 53) (v := ?_) (a' := ?_) #[Y,Y,Y,Y,Y,Y,Y,Y,Y,X,Y,Y,Y,X,X,X] rfl rfl (any_of HT_.out (by kernel_rfl)) (fun _ _ _ h => h) (Or.inl ⟨by rfl, ?_⟩) ?_ ?_
             rotate_left
             ·intro w'
              go_simp
              with_reducible rfl
             rotate_left
             ·simp only [qa_]
              rfl
             refine take_ (i := 9) (N := some 50) (v := ?_) (a' := ?_) #[Y,Y,Y,Y,Y,Y,Y,Y,Y,Y,Y,Y,Y,X,X,X] rfl rfl (take_ofW HT_.out HW_.out (by kernel_rfl)) (fun _ _ _ h => h) (Or.inl ⟨by rfl, ?_⟩) hHeld ?_ ?_
             rotate_left
             ·rintro w' ⟨s0, s1, s2, s3, s4, s5, s6⟩
              go_simp
              with_reducible rfl
             rotate_left
             ·simp only [qa_]
              rfl
             refine take_ (i := 13) (N := some 54) (v := ?_) (a' := ?_) #[Y,Y,Y,Y,Y,Y,Y,Y,Y,Y,Y,Y,Y,Y,X,X] rfl rfl (take_ofW HT_.out HW_.out (by kernel_rfl)) (fun _ _ _ h => h) (Or.inl ⟨by rfl, ?_⟩) hHeld ?_ ?_
             rotate_left
             ·rintro w' ⟨s0, s1, s2, s3, s4, s5, s6⟩
              go_simp
              with_reducible rfl
             rotate_left
             ·simp only [qa_]
              rfl
             refine pure_ (i := 14) (N := some 55) (v := ?_) (a' := ?_) #[Y,Y,Y,Y,Y,Y,Y,Y,Y,Y,Y,Y,Y,Y,Y,X] rfl rfl (any_of HT_.out (by kernel_rfl)) (fun _ _ _ h => h) (Or.inl ⟨by rfl, ?_⟩) ?_ ?_
             rotate_left
             ·intro w'
              go_simp
              with_reducible rfl
             rotate_left
             ·simp only [qa_]
              rfl
             refine pure_ (i := 15) (N := some 56) (v := ?_) (a' := ?_) #[Y,Y,Y,Y,Y,Y,Y,Y,Y,Y,Y,Y,Y,Y,Y,Y] rfl rfl (any_of HT_.out (by kernel_rfl)) (fun _ _ _ h => h) (Or.inl ⟨by rfl, ?_⟩) ?_ ?_
             rotate_left
             ·intro w'
              go_simp
              with_reducible rfl
             rotate_left
             ·simp only [qa_]
              rfl
             refine done_ (done_of HT_.out (by kernel_rfl)) ?_
             try go_wp2
             go_roundg k2
             case measure => have := HJ4.out; have := HK2.out; omega
             case rel => exact ⟨(wrap64 (x36_2 + 1)), (by first | rfl | (simp; done) | (simp [*]; done)), H', ⟨by have := HJ4.out; have := HK2.out; omega⟩, ⟨by (with_reducible repeat (first | apply Kd.R_alloc | apply Kd.R_drewN | apply Kd.R_drew)); exact Kd.R_mono HO_34.out (fun _ hk => trivial)⟩, ⟨by repeat (first | (with_reducible first | exact HB.out | apply below_alloc | apply pw_below_drewN | apply below_drew1 | refine below_set ?_ GE147.out) | exact HB.out)⟩⟩
            ·rw [if_neg c20] at H
             have c20b0 : (((rd_T38 t141 x36_2).f3) == (rd l2 x36_2)) = false := beq_eq_false_iff_ne.mpr c20
             have c20b1 : (((rd_T38 t141 x36_2).f3) != (rd l2 x36_2)) = true := bne_iff_ne.mpr c20
             obtain rfl := Option.some.inj H
             have p146 : 0 ≤ (x36_2 : Int) := of_decide_eq_true (by first | (with_reducible assumption) | assumption)
             have q146 : x36_2 < (t141.length : Int) := of_decide_eq_true (by first | (with_reducible assumption) | assumption)
             obtain ⟨ad146, e146, hx146_0, hx146_1, hx146_2, hx146_3, hx146_4⟩ := at_T38 (Kd.R_reads' HO_34.out).2.2 x36_2 p146 q146
             cases e146
             replace p146 := eq_true p146
             replace q146 := eq_true q146
             try go_wp2_with (first | ((with_reducible refine gate_dst (N := 11) rfl ?_); (try (refine gate_guard (by rfl) ?_; dsimp only)); refine box_event ?hg (N := 11) ?hd (cs := #[.int .i64 0, .int .i64 0, .string (⟨#[]⟩ : ByteArray), .int .i64 0, .int .i64 0]) (t := 38) ?hr ?_; (case hd => rfl); (case hg => rfl); (case hr => first | (go_simp; done) | (go_simp; rfl)); intro gb147 hg w26 hbox hb; have n0_ := Aside0.mk (Kd.R_below (Kd.R_elderB (by (with_reducible repeat (first | apply Kd.R_alloc | apply Kd.R_drewN | apply Kd.R_drew)); exact HO_34.out) gb147 (Nat.le_of_eq hg.symm)) hb); have n1_ := Aside0.mk (below_step (by repeat (first | (with_reducible first | exact HB.out | apply below_alloc | apply pw_below_drewN | apply below_drew1) | exact HB.out)) hb); have n2_ := Aside0.mk (hbox); have n3_ := Aside0.mk ((by rw [hg]; exact (below_size (by repeat (first | (with_reducible first | exact HB.out | apply below_alloc | apply pw_below_drewN | apply below_drew1) | exact HB.out))) : w.heap.size ≤ gb147)); have n4_ := Aside0.mk ((by rw [hg]; exact (below_size (by repeat (first | (with_reducible first | exact HB.out | apply below_alloc | apply pw_below_drewN | apply below_drew1) | exact HB.out))) : w.heap.size ≤ gb147)); clear HO_34; clear HB; have HO_34 := n0_; have HB := n1_; have BK147 := n2_; have GW147 := n3_; have GE147 := n4_; clear n0_ n1_ n2_ n3_ n4_; clear hb hbox hg; have hcz27_0 : w26.cell? ⟨gb147, 0, none⟩ = some (.int .i64 0) := (blk_cell BK147.out 0).trans rfl; have hcz27_1 : w26.cell? ⟨gb147, 1, none⟩ = some (.int .i64 0) := (blk_cell BK147.out 1).trans rfl; have hcz27_2 : w26.cell? ⟨gb147, 2, none⟩ = some (.string (⟨#[]⟩ : ByteArray)) := (blk_cell BK147.out 2).trans rfl; have hcz27_3 : w26.cell? ⟨gb147, 3, none⟩ = some (.int .i64 0) := (blk_cell BK147.out 3).trans rfl; have hcz27_4 : w26.cell? ⟨gb147, 4, none⟩ = some (.int .i64 0) := (blk_cell BK147.out 4).trans rfl; have hfz27_0 := blk_frozen BK147.out 0; have hfz27_1 := blk_frozen BK147.out 1; have hfz27_2 := blk_frozen BK147.out 2; have hfz27_3 := blk_frozen BK147.out 3; have hfz27_4 := blk_frozen BK147.out 4))
             have n0_ : Aside0 (Kd.R k38 38 (((((w26.setCell ⟨gb147, 0, none⟩ (.int .i64 ((rd_T38 t141 x36_2).f0))).setCell ⟨gb147, 1, none⟩ (.int .i64 ((rd_T38 t141 x36_2).f1))).setCell ⟨gb147, 2, none⟩ (.string ((rd_T38 t141 x36_2).f2))).setCell ⟨gb147, 3, none⟩ (.int .i64 ((rd_T38 t141 x36_2).f3))).setCell ⟨gb147, 4, none⟩ (.int .i64 ((rd_T38 t141 x36_2).f4))) w.heap.size (fun k_ => k_ ≠ gb147) (.slice (some ad146) t141.length co12) t141) := ⟨by (with_reducible repeat (first | apply Kd.R_alloc | apply Kd.R_drewN | apply Kd.R_drew)); exact Kd.R_mono (Kd.R_far (p := ⟨gb147, 4, none⟩) (Kd.R_far (p := ⟨gb147, 3, none⟩) (Kd.R_far (p := ⟨gb147, 2, none⟩) (Kd.R_far (p := ⟨gb147, 1, none⟩) (Kd.R_far (p := ⟨gb147, 0, none⟩) (Kd.R_mono HO_34.out (fun k_ hk => (⟨hk, hk.2⟩ : _ ∧ k_ ≠ gb147))) (fun _ hk => hk.2) (.int .i64 ((rd_T38 t141 x36_2).f0))) (fun _ hk => hk.2) (.int .i64 ((rd_T38 t141 x36_2).f1))) (fun _ hk => hk.2) (.string ((rd_T38 t141 x36_2).f2))) (fun _ hk => hk.2) (.int .i64 ((rd_T38 t141 x36_2).f3))) (fun _ hk => hk.2) (.int .i64 ((rd_T38 t141 x36_2).f4))) (fun _ hk => hk.1.2)⟩
             have n1_ : Aside0 ((((((w26.setCell ⟨gb147, 0, none⟩ (.int .i64 ((rd_T38 t141 x36_2).f0))).setCell ⟨gb147, 1, none⟩ (.int .i64 ((rd_T38 t141 x36_2).f1))).setCell ⟨gb147, 2, none⟩ (.string ((rd_T38 t141 x36_2).f2))).setCell ⟨gb147, 3, none⟩ (.int .i64 ((rd_T38 t141 x36_2).f3))).setCell ⟨gb147, 4, none⟩ (.int .i64 ((rd_T38 t141 x36_2).f4))).heap[gb147]? = some (.cells #[.int .i64 ((rd_T38 t141 x36_2).f0), .int .i64 ((rd_T38 t141 x36_2).f1), .string ((rd_T38 t141 x36_2).f2), .int .i64 ((rd_T38 t141 x36_2).f3), .int .i64 ((rd_T38 t141 x36_2).f4)] 38 (0, 0))) := ⟨by (with_reducible repeat (first | refine blk_drewN ?_ _ | refine blk_drew ?_ | refine blk_alloc ?_ _)); refine blk_put (cs := #[.int .i64 ((rd_T38 t141 x36_2).f0), .int .i64 ((rd_T38 t141 x36_2).f1), .string ((rd_T38 t141 x36_2).f2), .int .i64 ((rd_T38 t141 x36_2).f3), .int .i64 0]) ?_ 4 _ rfl; (with_reducible repeat (first | refine blk_drewN ?_ _ | refine blk_drew ?_ | refine blk_alloc ?_ _)); refine blk_put (cs := #[.int .i64 ((rd_T38 t141 x36_2).f0), .int .i64 ((rd_T38 t141 x36_2).f1), .string ((rd_T38 t141 x36_2).f2), .int .i64 0, .int .i64 0]) ?_ 3 _ rfl; (with_reducible repeat (first | refine blk_drewN ?_ _ | refine blk_drew ?_ | refine blk_alloc ?_ _)); refine blk_put (cs := #[.int .i64 ((rd_T38 t141 x36_2).f0), .int .i64 ((rd_T38 t141 x36_2).f1), .string (⟨#[]⟩ : ByteArray), .int .i64 0, .int .i64 0]) ?_ 2 _ rfl; (with_reducible repeat (first | refine blk_drewN ?_ _ | refine blk_drew ?_ | refine blk_alloc ?_ _)); refine blk_put (cs := #[.int .i64 ((rd_T38 t141 x36_2).f0), .int .i64 0, .string (⟨#[]⟩ : ByteArray), .int .i64 0, .int .i64 0]) ?_ 1 _ rfl; (with_reducible repeat (first | refine blk_drewN ?_ _ | refine blk_drew ?_ | refine blk_alloc ?_ _)); refine blk_put (cs := #[.int .i64 0, .int .i64 0, .string (⟨#[]⟩ : ByteArray), .int .i64 0, .int .i64 0]) ?_ 0 _ rfl; (with_reducible repeat (first | refine blk_drewN ?_ _ | refine blk_drew ?_ | refine blk_alloc ?_ _)); exact BK147.out⟩
             have n2_ : Aside0 (Below w.heap.size w (((((w26.setCell ⟨gb147, 0, none⟩ (.int .i64 ((rd_T38 t141 x36_2).f0))).setCell ⟨gb147, 1, none⟩ (.int .i64 ((rd_T38 t141 x36_2).f1))).setCell ⟨gb147, 2, none⟩ (.string ((rd_T38 t141 x36_2).f2))).setCell ⟨gb147, 3, none⟩ (.int .i64 ((rd_T38 t141 x36_2).f3))).setCell ⟨gb147, 4, none⟩ (.int .i64 ((rd_T38 t141 x36_2).f4)))) := ⟨by repeat (first | (with_reducible first | exact HB.out | apply below_alloc | apply pw_below_drewN | apply below_drew1 | refine below_set ?_ GE147.out) | exact HB.out)⟩
             (try clear HO_34)
             (try clear BK147)
             (try clear HB)
             generalize (((((w26.setCell ⟨gb147, 0, none⟩ (.int .i64 ((rd_T38 t141 x36_2).f0))).setCell ⟨gb147, 1, none⟩ (.int .i64 ((rd_T38 t141 x36_2).f1))).setCell ⟨gb147, 2, none⟩ (.string ((rd_T38 t141 x36_2).f2))).setCell ⟨gb147, 3, none⟩ (.int .i64 ((rd_T38 t141 x36_2).f3))).setCell ⟨gb147, 4, none⟩ (.int .i64 ((rd_T38 t141 x36_2).f4))) = w28 at n0_ n1_ n2_ ⊢
             have HO_34 := n0_
             have BK147 := n1_
             have HB := n2_
             clear n0_ n1_ n2_
             replace HO_34 := Aside0.mk (Kd.R_drew HO_34.out)
             replace BK147 := Aside0.mk (blk_drew BK147.out)
             replace HB := Aside0.mk (below_drew1 HB.out)
             have p149 : 0 ≤ (x36_2 : Int) := of_decide_eq_true (by first | (with_reducible assumption) | assumption)
             have q149 : x36_2 < (l1.length : Int) := of_decide_eq_true (by first | (with_reducible assumption) | assumption)
             obtain ⟨ad149, e149, hx149_0⟩ := Kd.at_string HR1.out x36_2 p149 q149
             have hw149_0 := hx149_0
             cases e149
             replace hx149_0 := (HB.out.cell (World.block_lt_of_cell? w _ hx149_0)).trans hx149_0
             replace p149 := eq_true p149
             replace q149 := eq_true q149
             have p150 : 0 ≤ (x36_2 : Int) := of_decide_eq_true (by first | (with_reducible assumption) | assumption)
             have q150 : x36_2 < (l2.length : Int) := of_decide_eq_true (by first | (with_reducible assumption) | assumption)
             obtain ⟨ad150, e150, hx150_0⟩ := Kd.at_int HR2.out x36_2 p150 q150
             have hw150_0 := hx150_0
             cases e150
             replace hx150_0 := (HB.out.cell (World.block_lt_of_cell? w _ hx150_0)).trans hx150_0
             replace p150 := eq_true p150
             replace q150 := eq_true q150
             refine start_ (n := 16) (S := fun w' => w'.cell? ⟨gb147, 0, none⟩ = some (.int .i64 ((rd_T38 t141 x36_2).f0)) ∧ w'.cell? ⟨gb147, 1, none⟩ = some (.int .i64 ((rd_T38 t141 x36_2).f1)) ∧ w'.cell? ⟨gb147, 2, none⟩ = some (.string ((rd_T38 t141 x36_2).f2)) ∧ w'.cell? ⟨gb147, 3, none⟩ = some (.int .i64 ((rd_T38 t141 x36_2).f3)) ∧ w'.cell? ⟨gb147, 4, none⟩ = some (.int .i64 ((rd_T38 t141 x36_2).f4)) ∧ w'.cell? (ad149.add (x36_2).toNat) = some (.string (rdOf ByteArray.empty l1 x36_2)) ∧ w'.cell? (ad150.add (x36_2).toNat) = some (.int .i64 (rd l2 x36_2))) (ds := []) #[X,X,X,X,X,X,X,X,X,X,X,X,X,X,X,X] (by kernel_rfl) rfl rfl ⟨(blk_cell BK147.out 0).trans rfl, (blk_cell BK147.out 1).trans rfl, (blk_cell BK147.out 2).trans rfl, (blk_cell BK147.out 3).trans rfl, (blk_cell BK147.out 4).trans rfl, ((HB.out.cell (World.block_lt_of_cell? w _ hw149_0)).trans hw149_0), ((HB.out.cell (World.block_lt_of_cell? w _ hw150_0)).trans hw150_0)⟩ (fun hHeld => ?_); refine with_tabW madrigallaw01_has.tab7 madrigallaw01_has.bits7 (fun HT_ HW_ => ?_)
             generalize w28.drew = w29 at HO_34 BK147 HB hx149_0 hx150_0 hHeld ⊢
             refine pure_ (i := 2) (N := some 43) (v := ?_) (a' := ?_) #[X,X,Y,X,X,X,X,X,X,X,X,X,X,X,X,X] rfl rfl (any_of HT_.out (by kernel_rfl)) (fun _ _ _ h => h) (Or.inl ⟨by rfl, ?_⟩) ?_ ?_
             rotate_left
             ·intro w'
              go_simp
              with_reducible rfl
             rotate_left
             ·simp only [qa_]
              rfl
             refine pure_ (i := 3) (N := some 44) (v := ?_) (a' := ?_) #[X,X,Y,Y,X,X,X,X,X,X,X,X,X,X,X,X] rfl rfl (any_of HT_.out (by kernel_rfl)) (fun _ _ _ h => h) (Or.inl ⟨by rfl, ?_⟩) ?_ ?_
             rotate_left
             ·intro w'
              go_simp
              with_reducible rfl
             rotate_left
             ·simp only [qa_]
              rfl
             refine pure_ (i := 4) (N := some 45) (v := ?_) (a' := ?_) #[X,X,Y,Y,Y,X,X,X,X,X,X,X,X,X,X,X] rfl rfl (any_of HT_.out (by kernel_rfl)) (fun _ _ _ h => h) (Or.inl ⟨by rfl, ?_⟩) ?_ ?_
             rotate_left
             ·intro w'
              go_simp
              with_reducible rfl
             rotate_left
             ·simp only [qa_]
              rfl
             refine take_ (i := 0) (N := some 41) (v := ?_) (a' := ?_) #[Y,X,Y,Y,Y,X,X,X,X,X,X,X,X,X,X,X] rfl rfl (take_ofW HT_.out HW_.out (by kernel_rfl)) (fun _ _ _ h => h) (Or.inl ⟨by rfl, ?_⟩) hHeld ?_ ?_
             rotate_left
             ·rintro w' ⟨s0, s1, s2, s3, s4, s5, s6⟩
              go_simp
              with_reducible rfl
             rotate_left
             ·simp only [qa_]
              rfl
             refine take_ (i := 5) (N := some 46) (v := ?_) (a' := ?_) #[Y,X,Y,Y,Y,Y,X,X,X,X,X,X,X,X,X,X] rfl rfl (take_ofW HT_.out HW_.out (by kernel_rfl)) (fun _ _ _ h => h) (Or.inl ⟨by rfl, ?_⟩) hHeld ?_ ?_
             rotate_left
             ·rintro w' ⟨s0, s1, s2, s3, s4, s5, s6⟩
              go_simp
              with_reducible rfl
             rotate_left
             ·simp only [qa_]
              rfl
             refine one_ (i := 1) (N := some 42) #[Y,Y,Y,Y,Y,Y,X,X,X,X,X,X,X,X,X,X] rfl rfl (one_of HT_.out (by kernel_rfl)) (by decide) (fun K hK => ?_)
             refine goes_ Tryz.func27 (by kernel_rfl) rfl #[.agg #[.int .i64 ((rd_T38 t141 x36_2).f0), .int .i64 ((rd_T38 t141 x36_2).f1), .string ((rd_T38 t141 x36_2).f2), .int .i64 ((rd_T38 t141 x36_2).f3), .int .i64 ((rd_T38 t141 x36_2).f4)]] (by rfl) rfl rfl (by (try simp only [List.map_toArray, List.map_cons, List.map_nil]); first | done | rfl | (simp only [List.length_drop, List.length_take]; rfl)) ?_
             with_reducible refine (madrigalref01_Text.calls ((rd_T38 t141 x36_2).f0) ((rd_T38 t141 x36_2).f1) ((rd_T38 t141 x36_2).f2) ((rd_T38 t141 x36_2).f3) ((rd_T38 t141 x36_2).f4) t148 _ A16.out ?side1).mono ?_
             (case side1 => exact GL.below HG.out (by repeat (first | (with_reducible first | exact HB.out | apply below_alloc | apply pw_below_drewN | apply below_drew1 | refine below_set ?_ GE147.out) | exact HB.out)))
             rintro e w30 ⟨rfl, hb⟩
             refine ⟨_, rfl, ?_⟩
             replace HO_34 := Aside0.mk (Kd.R_below (by (with_reducible repeat (first | apply Kd.R_alloc | apply Kd.R_drewN | apply Kd.R_drew)); exact HO_34.out) hb)
             replace BK147 := Aside0.mk (blk_below (g := gb147) (o := .cells #[.int .i64 ((rd_T38 t141 x36_2).f0), .int .i64 ((rd_T38 t141 x36_2).f1), .string ((rd_T38 t141 x36_2).f2), .int .i64 ((rd_T38 t141 x36_2).f3), .int .i64 ((rd_T38 t141 x36_2).f4)] 38 (0, 0)) (by (with_reducible repeat (first | refine blk_drewN ?_ _ | refine blk_drew ?_ | refine blk_alloc ?_ _)); exact BK147.out) hb)
             replace HB := Aside0.mk (below_step (by repeat (first | (with_reducible first | exact HB.out | apply below_alloc | apply pw_below_drewN | apply below_drew1 | refine below_set ?_ GE147.out) | exact HB.out)) hb)
             (try clear hb); (try clear hb2); (try clear hk); (try clear hi)
             refine hK.out _ _ ⟨(blk_cell BK147.out 0).trans rfl, (blk_cell BK147.out 1).trans rfl, (blk_cell BK147.out 2).trans rfl, (blk_cell BK147.out 3).trans rfl, (blk_cell BK147.out 4).trans rfl, ((HB.out.cell (World.block_lt_of_cell? w _ hw149_0)).trans hw149_0), ((HB.out.cell (World.block_lt_of_cell? w _ hw150_0)).trans hw150_0)⟩ (fun hHeld => ?_)
             clear hK K
             refine norm_ (a' := ?_) ?_ ?_
             rotate_left
             ·show Act.put _ (some 42) _ = _
              simp only [qa_]
              rfl
             refine pure_ (i := 6) (N := some 47) (v := ?_) (a' := ?_) #[Y,Y,Y,Y,Y,Y,Y,X,X,X,X,X,X,X,X,X] rfl rfl (any_of HT_.out (by kernel_rfl)) (fun _ _ _ h => h) (Or.inl ⟨by rfl, ?_⟩) ?_ ?_
             rotate_left
             ·intro w'
              go_simp
              with_reducible rfl
             rotate_left
             ·simp only [qa_]
              rfl
             refine pure_ (i := 7) (N := some 48) (v := ?_) (a' := ?_) #[Y,Y,Y,Y,Y,Y,Y,Y,X,X,X,X,X,X,X,X] rfl rfl (any_of HT_.out (by kernel_rfl)) (fun _ _ _ h => h) (Or.inl ⟨by rfl, ?_⟩) ?_ ?_
             rotate_left
             ·intro w'
              go_simp
              with_reducible rfl
             rotate_left
             ·simp only [qa_]
              rfl
             refine pure_ (i := 8) (N := some 49) (v := ?_) (a' := ?_) #[Y,Y,Y,Y,Y,Y,Y,Y,Y,X,X,X,X,X,X,X] rfl rfl (any_of HT_.out (by kernel_rfl)) (fun _ _ _ h => h) (Or.inl ⟨by rfl, ?_⟩) ?_ ?_
             rotate_left
             ·intro w'
              go_simp
              with_reducible rfl
             rotate_left
             ·simp only [qa_]
              rfl
             refine pure_ (i := 10) (N := some 51) (v := ?_) (a' := ?_) #[Y,Y,Y,Y,Y,Y,Y,Y,Y,X,Y,X,X,X,X,X] rfl rfl (any_of HT_.out (by kernel_rfl)) (fun _ _ _ h => h) (Or.inl ⟨by rfl, ?_⟩) ?_ ?_
             rotate_left
             ·intro w'
              go_simp
              with_reducible rfl
             rotate_left
             ·simp only [qa_]
              rfl
             refine pure_ (i := 11) (N := some 52) (v := ?_) (a' := ?_) #[Y,Y,Y,Y,Y,Y,Y,Y,Y,X,Y,Y,X,X,X,X] rfl rfl (any_of HT_.out (by kernel_rfl)) (fun _ _ _ h => h) (Or.inl ⟨by rfl, ?_⟩) ?_ ?_
             rotate_left
             ·intro w'
              go_simp
              with_reducible rfl
             rotate_left
             ·simp only [qa_]
              rfl
             refine pure_ (i := 12) (N := some 53) (v := ?_) (a' := ?_) #[Y,Y,Y,Y,Y,Y,Y,Y,Y,X,Y,Y,Y,X,X,X] rfl rfl (any_of HT_.out (by kernel_rfl)) (fun _ _ _ h => h) (Or.inl ⟨by rfl, ?_⟩) ?_ ?_
             rotate_left
             ·intro w'
              go_simp
              with_reducible rfl
             rotate_left
             ·simp only [qa_]
              rfl
             refine take_ (i := 9) (N := some 50) (v := ?_) (a' := ?_) #[Y,Y,Y,Y,Y,Y,Y,Y,Y,Y,Y,Y,Y,X,X,X] rfl rfl (take_ofW HT_.out HW_.out (by kernel_rfl)) (fun _ _ _ h => h) (Or.inl ⟨by rfl, ?_⟩) hHeld ?_ ?_
             rotate_left
             ·rintro w' ⟨s0, s1, s2, s3, s4, s5, s6⟩
              go_simp
              with_reducible rfl
             rotate_left
             ·simp only [qa_]
              rfl
             refine take_ (i := 13) (N := some 54) (v := ?_) (a' := ?_) #[Y,Y,Y,Y,Y,Y,Y,Y,Y,Y,Y,Y,Y,Y,X,X] rfl rfl (take_ofW HT_.out HW_.out (by kernel_rfl)) (fun _ _ _ h => h) (Or.inl ⟨by rfl, ?_⟩) hHeld ?_ ?_
             rotate_left
             ·rintro w' ⟨s0, s1, s2, s3, s4, s5, s6⟩
              go_simp
              with_reducible rfl
             rotate_left
             ·simp only [qa_]
              rfl
             refine pure_ (i := 14) (N := some 55) (v := ?_) (a' := ?_) #[Y,Y,Y,Y,Y,Y,Y,Y,Y,Y,Y,Y,Y,Y,Y,X] rfl rfl (any_of HT_.out (by kernel_rfl)) (fun _ _ _ h => h) (Or.inl ⟨by rfl, ?_⟩) ?_ ?_
             rotate_left
             ·intro w'
              go_simp
              with_reducible rfl
             rotate_left
             ·simp only [qa_]
              rfl
             refine pure_ (i := 15) (N := some 56) (v := ?_) (a' := ?_) #[Y,Y,Y,Y,Y,Y,Y,Y,Y,Y,Y,Y,Y,Y,Y,Y] rfl rfl (any_of HT_.out (by kernel_rfl)) (fun _ _ _ h => h) (Or.inl ⟨by rfl, ?_⟩) ?_ ?_
             rotate_left
             ·intro w'
              go_simp
              with_reducible rfl
             rotate_left
             ·simp only [qa_]
              rfl
             refine done_ (done_of HT_.out (by kernel_rfl)) ?_
             try go_wp2
             go_ret
             exact ⟨by first | rfl | (simp [errW_none, errW_some] <;> rfl) | (simp [*, errW_none, errW_some] <;> rfl), by repeat (first | (with_reducible first | exact HB.out | apply below_alloc | apply pw_below_drewN | apply below_drew1 | refine below_set ?_ GE147.out) | exact HB.out)⟩
           ·rw [if_neg c19] at H
            exact absurd H (by simp)
          ·rw [if_neg c18] at H
           have c18b0 : (t148.toList == (rdOf ByteArray.empty l1 x36_2).toList) = false := beq_eq_false_iff_ne.mpr c18
           have c18b1 : (t148.toList != (rdOf ByteArray.empty l1 x36_2).toList) = true := bne_iff_ne.mpr c18
           obtain rfl := Option.some.inj H
           have p146 : 0 ≤ (x36_2 : Int) := of_decide_eq_true (by first | (with_reducible assumption) | assumption)
           have q146 : x36_2 < (t141.length : Int) := of_decide_eq_true (by first | (with_reducible assumption) | assumption)
           obtain ⟨ad146, e146, hx146_0, hx146_1, hx146_2, hx146_3, hx146_4⟩ := at_T38 (Kd.R_reads' HO_34.out).2.2 x36_2 p146 q146
           cases e146
           replace p146 := eq_true p146
           replace q146 := eq_true q146
           try go_wp2_with (first | ((with_reducible refine gate_dst (N := 11) rfl ?_); (try (refine gate_guard (by rfl) ?_; dsimp only)); refine box_event ?hg (N := 11) ?hd (cs := #[.int .i64 0, .int .i64 0, .string (⟨#[]⟩ : ByteArray), .int .i64 0, .int .i64 0]) (t := 38) ?hr ?_; (case hd => rfl); (case hg => rfl); (case hr => first | (go_simp; done) | (go_simp; rfl)); intro gb147 hg w31 hbox hb; have n0_ := Aside0.mk (Kd.R_below (Kd.R_elderB (by (with_reducible repeat (first | apply Kd.R_alloc | apply Kd.R_drewN | apply Kd.R_drew)); exact HO_34.out) gb147 (Nat.le_of_eq hg.symm)) hb); have n1_ := Aside0.mk (below_step (by repeat (first | (with_reducible first | exact HB.out | apply below_alloc | apply pw_below_drewN | apply below_drew1) | exact HB.out)) hb); have n2_ := Aside0.mk (hbox); have n3_ := Aside0.mk ((by rw [hg]; exact (below_size (by repeat (first | (with_reducible first | exact HB.out | apply below_alloc | apply pw_below_drewN | apply below_drew1) | exact HB.out))) : w.heap.size ≤ gb147)); have n4_ := Aside0.mk ((by rw [hg]; exact (below_size (by repeat (first | (with_reducible first | exact HB.out | apply below_alloc | apply pw_below_drewN | apply below_drew1) | exact HB.out))) : w.heap.size ≤ gb147)); clear HO_34; clear HB; have HO_34 := n0_; have HB := n1_; have BK147 := n2_; have GW147 := n3_; have GE147 := n4_; clear n0_ n1_ n2_ n3_ n4_; clear hb hbox hg; have hcz32_0 : w31.cell? ⟨gb147, 0, none⟩ = some (.int .i64 0) := (blk_cell BK147.out 0).trans rfl; have hcz32_1 : w31.cell? ⟨gb147, 1, none⟩ = some (.int .i64 0) := (blk_cell BK147.out 1).trans rfl; have hcz32_2 : w31.cell? ⟨gb147, 2, none⟩ = some (.string (⟨#[]⟩ : ByteArray)) := (blk_cell BK147.out 2).trans rfl; have hcz32_3 : w31.cell? ⟨gb147, 3, none⟩ = some (.int .i64 0) := (blk_cell BK147.out 3).trans rfl; have hcz32_4 : w31.cell? ⟨gb147, 4, none⟩ = some (.int .i64 0) := (blk_cell BK147.out 4).trans rfl; have hfz32_0 := blk_frozen BK147.out 0; have hfz32_1 := blk_frozen BK147.out 1; have hfz32_2 := blk_frozen BK147.out 2; have hfz32_3 := blk_frozen BK147.out 3; have hfz32_4 := blk_frozen BK147.out 4))
           have n0_ : Aside0 (Kd.R k38 38 (((((w31.setCell ⟨gb147, 0, none⟩ (.int .i64 ((rd_T38 t141 x36_2).f0))).setCell ⟨gb147, 1, none⟩ (.int .i64 ((rd_T38 t141 x36_2).f1))).setCell ⟨gb147, 2, none⟩ (.string ((rd_T38 t141 x36_2).f2))).setCell ⟨gb147, 3, none⟩ (.int .i64 ((rd_T38 t141 x36_2).f3))).setCell ⟨gb147, 4, none⟩ (.int .i64 ((rd_T38 t141 x36_2).f4))) w.heap.size (fun k_ => k_ ≠ gb147) (.slice (some ad146) t141.length co12) t141) := ⟨by (with_reducible repeat (first | apply Kd.R_alloc | apply Kd.R_drewN | apply Kd.R_drew)); exact Kd.R_mono (Kd.R_far (p := ⟨gb147, 4, none⟩) (Kd.R_far (p := ⟨gb147, 3, none⟩) (Kd.R_far (p := ⟨gb147, 2, none⟩) (Kd.R_far (p := ⟨gb147, 1, none⟩) (Kd.R_far (p := ⟨gb147, 0, none⟩) (Kd.R_mono HO_34.out (fun k_ hk => (⟨hk, hk.2⟩ : _ ∧ k_ ≠ gb147))) (fun _ hk => hk.2) (.int .i64 ((rd_T38 t141 x36_2).f0))) (fun _ hk => hk.2) (.int .i64 ((rd_T38 t141 x36_2).f1))) (fun _ hk => hk.2) (.string ((rd_T38 t141 x36_2).f2))) (fun _ hk => hk.2) (.int .i64 ((rd_T38 t141 x36_2).f3))) (fun _ hk => hk.2) (.int .i64 ((rd_T38 t141 x36_2).f4))) (fun _ hk => hk.1.2)⟩
           have n1_ : Aside0 ((((((w31.setCell ⟨gb147, 0, none⟩ (.int .i64 ((rd_T38 t141 x36_2).f0))).setCell ⟨gb147, 1, none⟩ (.int .i64 ((rd_T38 t141 x36_2).f1))).setCell ⟨gb147, 2, none⟩ (.string ((rd_T38 t141 x36_2).f2))).setCell ⟨gb147, 3, none⟩ (.int .i64 ((rd_T38 t141 x36_2).f3))).setCell ⟨gb147, 4, none⟩ (.int .i64 ((rd_T38 t141 x36_2).f4))).heap[gb147]? = some (.cells #[.int .i64 ((rd_T38 t141 x36_2).f0), .int .i64 ((rd_T38 t141 x36_2).f1), .string ((rd_T38 t141 x36_2).f2), .int .i64 ((rd_T38 t141 x36_2).f3), .int .i64 ((rd_T38 t141 x36_2).f4)] 38 (0, 0))) := ⟨by (with_reducible repeat (first | refine blk_drewN ?_ _ | refine blk_drew ?_ | refine blk_alloc ?_ _)); refine blk_put (cs := #[.int .i64 ((rd_T38 t141 x36_2).f0), .int .i64 ((rd_T38 t141 x36_2).f1), .string ((rd_T38 t141 x36_2).f2), .int .i64 ((rd_T38 t141 x36_2).f3), .int .i64 0]) ?_ 4 _ rfl; (with_reducible repeat (first | refine blk_drewN ?_ _ | refine blk_drew ?_ | refine blk_alloc ?_ _)); refine blk_put (cs := #[.int .i64 ((rd_T38 t141 x36_2).f0), .int .i64 ((rd_T38 t141 x36_2).f1), .string ((rd_T38 t141 x36_2).f2), .int .i64 0, .int .i64 0]) ?_ 3 _ rfl; (with_reducible repeat (first | refine blk_drewN ?_ _ | refine blk_drew ?_ | refine blk_alloc ?_ _)); refine blk_put (cs := #[.int .i64 ((rd_T38 t141 x36_2).f0), .int .i64 ((rd_T38 t141 x36_2).f1), .string (⟨#[]⟩ : ByteArray), .int .i64 0, .int .i64 0]) ?_ 2 _ rfl; (with_reducible repeat (first | refine blk_drewN ?_ _ | refine blk_drew ?_ | refine blk_alloc ?_ _)); refine blk_put (cs := #[.int .i64 ((rd_T38 t141 x36_2).f0), .int .i64 0, .string (⟨#[]⟩ : ByteArray), .int .i64 0, .int .i64 0]) ?_ 1 _ rfl; (with_reducible repeat (first | refine blk_drewN ?_ _ | refine blk_drew ?_ | refine blk_alloc ?_ _)); refine blk_put (cs := #[.int .i64 0, .int .i64 0, .string (⟨#[]⟩ : ByteArray), .int .i64 0, .int .i64 0]) ?_ 0 _ rfl; (with_reducible repeat (first | refine blk_drewN ?_ _ | refine blk_drew ?_ | refine blk_alloc ?_ _)); exact BK147.out⟩
           have n2_ : Aside0 (Below w.heap.size w (((((w31.setCell ⟨gb147, 0, none⟩ (.int .i64 ((rd_T38 t141 x36_2).f0))).setCell ⟨gb147, 1, none⟩ (.int .i64 ((rd_T38 t141 x36_2).f1))).setCell ⟨gb147, 2, none⟩ (.string ((rd_T38 t141 x36_2).f2))).setCell ⟨gb147, 3, none⟩ (.int .i64 ((rd_T38 t141 x36_2).f3))).setCell ⟨gb147, 4, none⟩ (.int .i64 ((rd_T38 t141 x36_2).f4)))) := ⟨by repeat (first | (with_reducible first | exact HB.out | apply below_alloc | apply pw_below_drewN | apply below_drew1 | refine below_set ?_ GE147.out) | exact HB.out)⟩
           (try clear HO_34)
           (try clear BK147)
           (try clear HB)
           generalize (((((w31.setCell ⟨gb147, 0, none⟩ (.int .i64 ((rd_T38 t141 x36_2).f0))).setCell ⟨gb147, 1, none⟩ (.int .i64 ((rd_T38 t141 x36_2).f1))).setCell ⟨gb147, 2, none⟩ (.string ((rd_T38 t141 x36_2).f2))).setCell ⟨gb147, 3, none⟩ (.int .i64 ((rd_T38 t141 x36_2).f3))).setCell ⟨gb147, 4, none⟩ (.int .i64 ((rd_T38 t141 x36_2).f4))) = w33 at n0_ n1_ n2_ ⊢
           have HO_34 := n0_
           have BK147 := n1_
           have HB := n2_
           clear n0_ n1_ n2_
           replace HO_34 := Aside0.mk (Kd.R_drew HO_34.out)
           replace BK147 := Aside0.mk (blk_drew BK147.out)
           replace HB := Aside0.mk (below_drew1 HB.out)
           have p149 : 0 ≤ (x36_2 : Int) := of_decide_eq_true (by first | (with_reducible assumption) | assumption)
           have q149 : x36_2 < (l1.length : Int) := of_decide_eq_true (by first | (with_reducible assumption) | assumption)
           obtain ⟨ad149, e149, hx149_0⟩ := Kd.at_string HR1.out x36_2 p149 q149
           have hw149_0 := hx149_0
           cases e149
           replace hx149_0 := (HB.out.cell (World.block_lt_of_cell? w _ hx149_0)).trans hx149_0
           replace p149 := eq_true p149
           replace q149 := eq_true q149
           refine start_ (n := 16) (S := fun w' => w'.cell? ⟨gb147, 0, none⟩ = some (.int .i64 ((rd_T38 t141 x36_2).f0)) ∧ w'.cell? ⟨gb147, 1, none⟩ = some (.int .i64 ((rd_T38 t141 x36_2).f1)) ∧ w'.cell? ⟨gb147, 2, none⟩ = some (.string ((rd_T38 t141 x36_2).f2)) ∧ w'.cell? ⟨gb147, 3, none⟩ = some (.int .i64 ((rd_T38 t141 x36_2).f3)) ∧ w'.cell? ⟨gb147, 4, none⟩ = some (.int .i64 ((rd_T38 t141 x36_2).f4)) ∧ w'.cell? (ad149.add (x36_2).toNat) = some (.string (rdOf ByteArray.empty l1 x36_2))) (ds := []) #[X,X,X,X,X,X,X,X,X,X,X,X,X,X,X,X] (by kernel_rfl) rfl rfl ⟨(blk_cell BK147.out 0).trans rfl, (blk_cell BK147.out 1).trans rfl, (blk_cell BK147.out 2).trans rfl, (blk_cell BK147.out 3).trans rfl, (blk_cell BK147.out 4).trans rfl, ((HB.out.cell (World.block_lt_of_cell? w _ hw149_0)).trans hw149_0)⟩ (fun hHeld => ?_); refine with_tabW madrigallaw01_has.tab7 madrigallaw01_has.bits7 (fun HT_ HW_ => ?_)
           generalize w33.drew = w34 at HO_34 BK147 HB hx149_0 hHeld ⊢
           refine pure_ (i := 2) (N := some 43) (v := ?_) (a' := ?_) #[X,X,Y,X,X,X,X,X,X,X,X,X,X,X,X,X] rfl rfl (any_of HT_.out (by kernel_rfl)) (fun _ _ _ h => h) (Or.inl ⟨by rfl, ?_⟩) ?_ ?_
           rotate_left
           ·intro w'
            go_simp
            with_reducible rfl
           rotate_left
           ·simp only [qa_]
            rfl
           refine pure_ (i := 3) (N := some 44) (v := ?_) (a' := ?_) #[X,X,Y,Y,X,X,X,X,X,X,X,X,X,X,X,X] rfl rfl (any_of HT_.out (by kernel_rfl)) (fun _ _ _ h => h) (Or.inl ⟨by rfl, ?_⟩) ?_ ?_
           rotate_left
           ·intro w'
            go_simp
            with_reducible rfl
           rotate_left
           ·simp only [qa_]
            rfl
           refine pure_ (i := 4) (N := some 45) (v := ?_) (a' := ?_) #[X,X,Y,Y,Y,X,X,X,X,X,X,X,X,X,X,X] rfl rfl (any_of HT_.out (by kernel_rfl)) (fun _ _ _ h => h) (Or.inl ⟨by rfl, ?_⟩) ?_ ?_
           rotate_left
           ·intro w'
            go_simp
            with_reducible rfl
           rotate_left
           ·simp only [qa_]
            rfl
           refine take_ (i := 0) (N := some 41) (v := ?_) (a' := ?_) #[Y,X,Y,Y,Y,X,X,X,X,X,X,X,X,X,X,X] rfl rfl (take_ofW HT_.out HW_.out (by kernel_rfl)) (fun _ _ _ h => h) (Or.inl ⟨by rfl, ?_⟩) hHeld ?_ ?_
           rotate_left
           ·rintro w' ⟨s0, s1, s2, s3, s4, s5⟩
            go_simp
            with_reducible rfl
           rotate_left
           ·simp only [qa_]
            rfl
           refine take_ (i := 5) (N := some 46) (v := ?_) (a' := ?_) #[Y,X,Y,Y,Y,Y,X,X,X,X,X,X,X,X,X,X] rfl rfl (take_ofW HT_.out HW_.out (by kernel_rfl)) (fun _ _ _ h => h) (Or.inl ⟨by rfl, ?_⟩) hHeld ?_ ?_
           rotate_left
           ·rintro w' ⟨s0, s1, s2, s3, s4, s5⟩
            go_simp
            with_reducible rfl
           rotate_left
           ·simp only [qa_]
            rfl
           refine one_ (i := 1) (N := some 42) #[Y,Y,Y,Y,Y,Y,X,X,X,X,X,X,X,X,X,X] rfl rfl (one_of HT_.out (by kernel_rfl)) (by decide) (fun K hK => ?_)
           refine goes_ Tryz.func27 (by kernel_rfl) rfl #[.agg #[.int .i64 ((rd_T38 t141 x36_2).f0), .int .i64 ((rd_T38 t141 x36_2).f1), .string ((rd_T38 t141 x36_2).f2), .int .i64 ((rd_T38 t141 x36_2).f3), .int .i64 ((rd_T38 t141 x36_2).f4)]] (by rfl) rfl rfl (by (try simp only [List.map_toArray, List.map_cons, List.map_nil]); first | done | rfl | (simp only [List.length_drop, List.length_take]; rfl)) ?_
           with_reducible refine (madrigalref01_Text.calls ((rd_T38 t141 x36_2).f0) ((rd_T38 t141 x36_2).f1) ((rd_T38 t141 x36_2).f2) ((rd_T38 t141 x36_2).f3) ((rd_T38 t141 x36_2).f4) t148 _ A16.out ?side1).mono ?_
           (case side1 => exact GL.below HG.out (by repeat (first | (with_reducible first | exact HB.out | apply below_alloc | apply pw_below_drewN | apply below_drew1 | refine below_set ?_ GE147.out) | exact HB.out)))
           rintro e w35 ⟨rfl, hb⟩
           refine ⟨_, rfl, ?_⟩
           replace HO_34 := Aside0.mk (Kd.R_below (by (with_reducible repeat (first | apply Kd.R_alloc | apply Kd.R_drewN | apply Kd.R_drew)); exact HO_34.out) hb)
           replace BK147 := Aside0.mk (blk_below (g := gb147) (o := .cells #[.int .i64 ((rd_T38 t141 x36_2).f0), .int .i64 ((rd_T38 t141 x36_2).f1), .string ((rd_T38 t141 x36_2).f2), .int .i64 ((rd_T38 t141 x36_2).f3), .int .i64 ((rd_T38 t141 x36_2).f4)] 38 (0, 0)) (by (with_reducible repeat (first | refine blk_drewN ?_ _ | refine blk_drew ?_ | refine blk_alloc ?_ _)); exact BK147.out) hb)
           replace HB := Aside0.mk (below_step (by repeat (first | (with_reducible first | exact HB.out | apply below_alloc | apply pw_below_drewN | apply below_drew1 | refine below_set ?_ GE147.out) | exact HB.out)) hb)
           (try clear hb); (try clear hb2); (try clear hk); (try clear hi)
           refine hK.out _ _ ⟨(blk_cell BK147.out 0).trans rfl, (blk_cell BK147.out 1).trans rfl, (blk_cell BK147.out 2).trans rfl, (blk_cell BK147.out 3).trans rfl, (blk_cell BK147.out 4).trans rfl, ((HB.out.cell (World.block_lt_of_cell? w _ hw149_0)).trans hw149_0)⟩ (fun hHeld => ?_)
           clear hK K
           refine norm_ (a' := ?_) ?_ ?_
           rotate_left
           ·show Act.put _ (some 42) _ = _
            simp only [qa_]
            rfl
           refine pure_ (i := 6) (N := some 47) (v := ?_) (a' := ?_) #[Y,Y,Y,Y,Y,Y,Y,X,X,X,X,X,X,X,X,X] rfl rfl (any_of HT_.out (by kernel_rfl)) (fun _ _ _ h => h) (Or.inl ⟨by rfl, ?_⟩) ?_ ?_
           rotate_left
           ·intro w'
            go_simp
            with_reducible rfl
           rotate_left
           ·simp only [qa_]
            rfl
           refine pure_ (i := 7) (N := some 48) (v := ?_) (a' := ?_) #[Y,Y,Y,Y,Y,Y,Y,Y,X,X,X,X,X,X,X,X] rfl rfl (any_of HT_.out (by kernel_rfl)) (fun _ _ _ h => h) (Or.inl ⟨by rfl, ?_⟩) ?_ ?_
           rotate_left
           ·intro w'
            go_simp
            with_reducible rfl
           rotate_left
           ·simp only [qa_]
            rfl
           refine pure_ (i := 8) (N := some 49) (v := undef) (a' := ?_) #[Y,Y,Y,Y,Y,Y,Y,Y,Y,X,X,X,X,X,X,X] rfl rfl (any_of HT_.out (by kernel_rfl)) (fun _ _ _ h => h) (Or.inr ⟨by rfl, rfl⟩) ?_ ?_
           rotate_left
           ·simp only [qa_]
            rfl
           refine pure_ (i := 9) (N := some 50) (v := undef) (a' := ?_) #[Y,Y,Y,Y,Y,Y,Y,Y,Y,Y,X,X,X,X,X,X] rfl rfl (any_of HT_.out (by kernel_rfl)) (fun _ _ _ h => h) (Or.inr ⟨by rfl, rfl⟩) ?_ ?_
           rotate_left
           ·simp only [qa_]
            rfl
           refine pure_ (i := 10) (N := some 51) (v := undef) (a' := ?_) #[Y,Y,Y,Y,Y,Y,Y,Y,Y,Y,Y,X,X,X,X,X] rfl rfl (any_of HT_.out (by kernel_rfl)) (fun _ _ _ h => h) (Or.inr ⟨by rfl, rfl⟩) ?_ ?_
           rotate_left
           ·simp only [qa_]
            rfl
           refine pure_ (i := 11) (N := some 52) (v := undef) (a' := ?_) #[Y,Y,Y,Y,Y,Y,Y,Y,Y,Y,Y,Y,X,X,X,X] rfl rfl (any_of HT_.out (by kernel_rfl)) (fun _ _ _ h => h) (Or.inr ⟨by rfl, rfl⟩) ?_ ?_
           rotate_left
           ·simp only [qa_]
            rfl
           refine pure_ (i := 12) (N := some 53) (v := undef) (a' := ?_) #[Y,Y,Y,Y,Y,Y,Y,Y,Y,Y,Y,Y,Y,X,X,X] rfl rfl (any_of HT_.out (by kernel_rfl)) (fun _ _ _ h => h) (Or.inr ⟨by rfl, rfl⟩) ?_ ?_
           rotate_left
           ·simp only [qa_]
            rfl
           refine pure_ (i := 13) (N := some 54) (v := undef) (a' := ?_) #[Y,Y,Y,Y,Y,Y,Y,Y,Y,Y,Y,Y,Y,Y,X,X] rfl rfl (any_of HT_.out (by kernel_rfl)) (fun _ _ _ h => h) (Or.inr ⟨by rfl, rfl⟩) ?_ ?_
           rotate_left
           ·simp only [qa_]
            rfl
           refine pure_ (i := 14) (N := some 55) (v := undef) (a' := ?_) #[Y,Y,Y,Y,Y,Y,Y,Y,Y,Y,Y,Y,Y,Y,Y,X] rfl rfl (any_of HT_.out (by kernel_rfl)) (fun _ _ _ h => h) (Or.inr ⟨by rfl, rfl⟩) ?_ ?_
           rotate_left
           ·simp only [qa_]
            rfl
           refine pure_ (i := 15) (N := some 56) (v := ?_) (a' := ?_) #[Y,Y,Y,Y,Y,Y,Y,Y,Y,Y,Y,Y,Y,Y,Y,Y] rfl rfl (any_of HT_.out (by kernel_rfl)) (fun _ _ _ h => h) (Or.inl ⟨by rfl, ?_⟩) ?_ ?_
           rotate_left
           ·intro w'
            go_simp
            with_reducible rfl
           rotate_left
           ·simp only [qa_]
            rfl
           refine done_ (done_of HT_.out (by kernel_rfl)) ?_
           try go_wp2
           go_ret
           exact ⟨by first | rfl | (simp [errW_none, errW_some] <;> rfl) | (simp [*, errW_none, errW_some] <;> rfl), by repeat (first | (with_reducible first | exact HB.out | apply below_alloc | apply pw_below_drewN | apply below_drew1 | refine below_set ?_ GE147.out) | exact HB.out)⟩
         ·rw [if_neg c17] at H
          exact absurd H (by simp)
        ·rw [if_neg c15] at H
         exact absurd H (by simp)
       ·rw [if_neg c14] at H
        exact absurd H (by simp)
      ·rw [if_neg c13] at H
       have c13b0 : decide (x36_2 < (t141.length : Int)) = false := decide_eq_false c13
       clear c13
       obtain rfl := Option.some.inj H
       go_wp2
       go_ret
       exact ⟨by first | rfl | (simp [errW_none, errW_some] <;> rfl) | (simp [*, errW_none, errW_some] <;> rfl), by repeat (first | (with_reducible first | exact HB.out | apply below_alloc | apply pw_below_drewN | apply below_drew1) | exact HB.out)⟩
end Go.Proofs.YtglgppkjgodlkaaGreatDoor.P
