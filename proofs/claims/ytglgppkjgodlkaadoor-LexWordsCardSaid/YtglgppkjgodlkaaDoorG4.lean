-- Printed by a program of this session (myprint.py, resplit.py), which drives the kit's printer; Lean checks every row.
import Derived.Test.YtglgppkjgodlkaaDoorP0
import Derived.Test.YtglgppkjgodlkaaDoorP1
import Derived.Test.YtglgppkjgodlkaaDoorG0
import Derived.Test.YtglgppkjgodlkaaDoorG1
import Derived.Test.YtglgppkjgodlkaaDoorG2
import Derived.Test.YtglgppkjgodlkaaDoorG3
namespace Go.Proofs.YtglgppkjgodlkaaDoor.P
open Go.Proofs.YtglgppkjgodlkaaDoorW.PrintLast Go.Proofs.YtglgppkjgodlkaaDoorW.PrintMore Go.Proofs.YtglgppkjgodlkaaDoorW.PrintWords Go.RowKit
attribute [local go_sem] max2_int min2_int max_two min_two max_three min_three max_four min_four   -- for this text's walks alone
set_option linter.unusedVariables false
set_option linter.unusedSimpArgs false
attribute [local go_sem high] eqA43

/-! ### lex_Join: function 23 -/
def joinStep (l : List S43) (i : Nat) : Option Bool := if i = 0 then some true else
  lex_apart.f (rd_T43 l ((i : Int) - 1)).f0 (rd_T43 l ((i : Int) - 1)).f1 (rd_T43 l ((i : Int) - 1)).f2 (rd_T43 l ((i : Int) - 1)).f3 (rd_T43 l ((i : Int) - 1)).f4
    (rd_T43 l (i : Int)).f0 (rd_T43 l (i : Int)).f1 (rd_T43 l (i : Int)).f2 (rd_T43 l (i : Int)).f3 (rd_T43 l (i : Int)).f4
def joinText (l : List S43) (i : Nat) : Option ByteArray := lex_written.f (rd_T43 l (i : Int)).f0 (rd_T43 l (i : Int)).f1 (rd_T43 l (i : Int)).f2 (rd_T43 l (i : Int)).f3 (rd_T43 l (i : Int)).f4
def sepB (b : Bool) : Lex.Bytes := if b then [] else [32]
def joinFrom (l : List S43) : Nat → Nat → Lex.Bytes → Option Lex.Bytes
  | 0, _, acc => some acc
  | k + 1, i, acc => (joinStep l i).bind fun b => (joinText l i).bind fun t => if acc.length + 1 + t.size ≤ 140737488355328 then joinFrom l k (i + 1) (acc ++ sepB b ++ t.data.toList) else none
def lex_Join.f (l : List S43) : Option (ByteArray × Int) :=
  (lex_right.f l).bind fun b => if b then (if 20000 < l.length then some (⟨#[]⟩, 2) else (joinFrom l l.length 0 []).bind fun o => if 100000 < o.length then some (⟨#[]⟩, 2) else some (⟨o.toArray⟩, 0)) else some (⟨#[]⟩, 1)
theorem join_next {l : List S43} {i : Nat} {acc out : Lex.Bytes} (hi : i < l.length) (h : joinFrom l (l.length - i) i acc = some out) :
    ∃ b t, joinStep l i = some b ∧ joinText l i = some t ∧ acc.length + 1 + t.size ≤ 140737488355328 ∧ joinFrom l (l.length - (i + 1)) (i + 1) (acc ++ sepB b ++ t.data.toList) = some out := by
  rw [show l.length - i = (l.length - (i + 1)) + 1 by omega, joinFrom] at h
  obtain ⟨b, h1, h⟩ := Option.bind_eq_some_iff.mp h
  obtain ⟨t, h2, h⟩ := Option.bind_eq_some_iff.mp h
  split at h
  · exact ⟨b, t, h1, h2, by omega, h⟩
  · cases h
theorem join_len {b : Bool} {acc : Lex.Bytes} {n : Nat} (h : acc.length + 1 + n ≤ 140737488355328) : (acc ++ sepB b).length + n ≤ 140737488355328 := by
  cases b <;> simp [sepB] <;> omega
theorem join_one {acc : Lex.Bytes} {n : Nat} (h : acc.length + 1 + n ≤ 140737488355328) : acc.length + 1 ≤ 140737488355328 := by omega
/-- At a round of Join. -/
structure JoinAt (w : World) (b : Nat) (l : List S43) (out : Lex.Bytes) (i : Nat) (acc : Lex.Bytes) (W : World) : Prop where
  le : i ≤ l.length
  bel : Below w.heap.size w W
  bld : Bld w.heap.size b acc W
  eq : joinFrom l (l.length - i) i acc = some out
def TokBlk (w : World) (tb : Nat) (x : S43) : Prop := w.heap[tb]? = some (.cells #[.int .i64 x.f0, .int .i64 x.f1, .string x.f2, .int .i64 x.f3, .int .i64 x.f4] 43 (0, 0))
theorem TokBlk.cells {w : World} {tb : Nat} {x : S43} (h : TokBlk w tb x) : w.cell? ⟨tb, 0, none⟩ = some (.int .i64 x.f0) ∧ w.cell? ⟨tb, 1, none⟩ = some (.int .i64 x.f1) ∧ w.cell? ⟨tb, 2, none⟩ = some (.string x.f2) ∧ w.cell? ⟨tb, 3, none⟩ = some (.int .i64 x.f3) ∧ w.cell? ⟨tb, 4, none⟩ = some (.int .i64 x.f4) :=
  ⟨by rw [cell_of_row w tb 0 _ _ _ h]; rfl, by rw [cell_of_row w tb 1 _ _ _ h]; rfl, by rw [cell_of_row w tb 2 _ _ _ h]; rfl, by rw [cell_of_row w tb 3 _ _ _ h]; rfl, by rw [cell_of_row w tb 4 _ _ _ h]; rfl⟩
/-- In a round of Join, behind the blank. -/
structure JoinIn (w : World) (bb tb : Nat) (x : S43) (acc : Lex.Bytes) (W : World) : Prop where
  bel : Below w.heap.size w W
  bld : Bld w.heap.size bb acc W
  tok : TokBlk W tb x
  ne : bb ≠ tb
theorem JoinIn.below {w : World} {bb tb : Nat} {x : S43} {acc : Lex.Bytes} {W W2 : World} (h : JoinIn w bb tb x acc W) (hb : Below W.heap.size W W2) : JoinIn w bb tb x acc W2 :=
  ⟨h.bel.trans (hb.mono h.bel.size), h.bld.below hb, (hb.block tb (Array.getElem?_eq_some_iff.1 h.tok).1).trans h.tok, h.ne⟩
theorem JoinIn.wrote {w : World} {bb tb : Nat} {x : S43} {acc acc' : Lex.Bytes} {W W2 : World} (h : JoinIn w bb tb x acc W) (h1 : Bld w.heap.size bb acc' W2) (h2 : Below w.heap.size W W2) (h3 : Kept bb W W2) : JoinIn w bb tb x acc' W2 :=
  ⟨h.bel.trans h2, h1, h3 tb _ h.tok (fun e => h.ne (by injection e with e; exact e.symm)) (fun c fz e => by injection e with _ e; exact absurd e (by decide)), h.ne⟩
set_option maxHeartbeats 8000000 in
set_option maxRecDepth 100000 in
theorem join_done (A0 : Option Addr) (c0 : Nat) (l0 : List S43) (out : Lex.Bytes) (w : World) (hr0 : Kd.C k43 w A0 l0.length l0) (hc0 : l0.length ≤ c0) (hR : lex_right.f l0 = some true) (hn : l0.length ≤ 20000) (h : joinFrom l0 l0.length 0 [] = some out) (hG : GL w) :
    Calls Tryd.prog 23 #[.slice A0 l0.length c0] w fun e w' => e = .returned (.tuple #[.string (if 100000 < out.length then ⟨#[]⟩ else ⟨out.toArray⟩), .int .i64 (if 100000 < out.length then 2 else 0)]) ∧ Below w.heap.size w w' := by
  have hx := Aside0.mk (lex_right.calls A0 c0 l0 true w hr0 hc0 hR hG)
  have HG := Aside0.mk hG
  have HR0 := Aside0.mk hr0
  have H0 := Aside0.mk h
  have hn2 : ¬ 20000 < (l0.length : Int) := by omega
  clear hr0 hc0 h hG hR
  go_enter Tryd.func23, Tryd.ntmps23
  go_wp2_with fail
  refine hx.out.mono ?_
  rintro e w1 ⟨rfl, hB⟩
  have HB := Aside0.mk hB
  clear hB hx
  go_wp2_with fail
  have hst : JoinAt w w1.heap.size l0 out 0 [] (w1.alloc (.cells #[.pointer none, .slice none 0 0] 66)) := ⟨Nat.zero_le _, HB.out.alloc HB.out.size _, bld_new _ _ HB.out.size, H0.out⟩
  generalize hWb : w1.alloc (.cells #[.pointer none, .slice none 0 0] 66) = Wb at hst ⊢
  clear hWb
  generalize w1.heap.size = bb at hst ⊢
  clear HB
  go_wp2_with fail
  go_loopg [15] l0.length (fun k t wr => ∃ (i : Nat) (acc : Lex.Bytes), l0.length - i ≤ k ∧ t = .int .i64 (i : Int) ∧ Aside0 (JoinAt w bb l0 out i acc wr))
  case atStart => exact ⟨0, [], Nat.le_refl _, rfl, ⟨hst⟩⟩
  case round =>
    obtain ⟨i, acc, hkk, rfl, HI⟩ := hrel
    by_cases hlt : i < l0.length
    · have hlt2 : (i : Int) < (l0.length : Int) := by omega
      obtain ⟨b, t, h1, h2, h3, h4⟩ := join_next hlt HI.out.eq
      have hw64 := right_wrap hlt (by omega)
      obtain ⟨ad, e175, hx0, hx1, hx2, hx3, hx4⟩ := at_T43 HR0.out (i : Int) (by omega) (by omega)
      cases e175
      replace hx0 := (HI.out.bel.cell (World.block_lt_of_cell? w _ hx0)).trans hx0
      replace hx1 := (HI.out.bel.cell (World.block_lt_of_cell? w _ hx1)).trans hx1
      replace hx2 := (HI.out.bel.cell (World.block_lt_of_cell? w _ hx2)).trans hx2
      replace hx3 := (HI.out.bel.cell (World.block_lt_of_cell? w _ hx3)).trans hx3
      replace hx4 := (HI.out.bel.cell (World.block_lt_of_cell? w _ hx4)).trans hx4
      simp only [Int.toNat_natCast] at hx0 hx1 hx2 hx3 hx4
      have hy := hx0
      go_wp2_with fail
      have hne : bb ≠ wr.heap.size := by
        have : bb < wr.heap.size := by
          rcases HI.out.bld with h | h
          · exact h.lt
          · exact h.lt
        omega
      have HIn : ∀ o : Obj, o = (Obj.cells #[.int .i64 (rd_T43 l0 (i : Int)).f0, .int .i64 (rd_T43 l0 (i : Int)).f1, .string (rd_T43 l0 (i : Int)).f2, .int .i64 (rd_T43 l0 (i : Int)).f3, .int .i64 (rd_T43 l0 (i : Int)).f4] 43) → Aside0 (JoinIn w bb wr.heap.size (rd_T43 l0 (i : Int)) acc (wr.alloc o)) := by
        rintro o rfl
        exact ⟨⟨HI.out.bel.alloc HI.out.bel.size _, HI.out.bld.below (below_alloc (Below.refl _ _) _), Array.getElem?_push_size, hne⟩⟩
      have HJ := HIn _ rfl
      have H2 : Aside0 (lex_written.f (rd_T43 l0 (i : Int)).f0 (rd_T43 l0 (i : Int)).f1 (rd_T43 l0 (i : Int)).f2 (rd_T43 l0 (i : Int)).f3 (rd_T43 l0 (i : Int)).f4 = some t) := ⟨h2⟩
      have H3 := Aside0.mk h3
      have H4 := Aside0.mk h4
      clear hx0 hx1 hx2 hx3 hx4 hy HI HIn hne h2 h3 h4
      generalize hW2 : wr.alloc (Obj.cells #[.int .i64 (rd_T43 l0 (i : Int)).f0, .int .i64 (rd_T43 l0 (i : Int)).f1, .string (rd_T43 l0 (i : Int)).f2, .int .i64 (rd_T43 l0 (i : Int)).f3, .int .i64 (rd_T43 l0 (i : Int)).f4] 43) = W2 at HJ ⊢
      clear hW2
      generalize wr.heap.size = tb at HJ ⊢
      have hk := HJ.out.tok.cells
      have k0 := hk.1
      have k1 := hk.2.1
      have k2 := hk.2.2.1
      have k3 := hk.2.2.2.1
      have k4 := hk.2.2.2.2
      clear hk
      by_cases hi0 : i = 0
      · have hb : b = true := by
          unfold joinStep at h1
          rw [if_pos hi0] at h1
          injection h1 with h1
          exact h1.symm
        subst hi0
        clear h1
        subst hb
        go_quiet (fail)
        all_goals
          have HJ3 : Aside0 (JoinIn w bb tb (rd_T43 l0 ((0 : Nat) : Int)) (acc ++ sepB true) (W2.drewN nq)) := ⟨by rw [show sepB true = [] from rfl, List.append_nil]; exact HJ.out.below (below_drewN' _ _)⟩
          clear k0 k1 k2 k3 k4
          have hk := HJ3.out.tok.cells
          have y0 := hk.1
          have y1 := hk.2.1
          have y2 := hk.2.2.1
          have y3 := hk.2.2.2.1
          have y4 := hk.2.2.2.2
          clear hk
          go_wp2_with fail
          refine (lex_written.calls _ _ _ _ _ t _ H2.out (GL.below HG.out HJ3.out.bel)).mono ?_
          rintro e w4 ⟨rfl, hB4⟩
          have HJ4 := Aside0.mk (HJ3.out.below hB4)
          clear y0 y1 y2 y3 y4 hB4
          go_wp2_with fail
          refine (bld_str w.heap.size bb _ t _ HJ4.out.bld (join_len H3.out) HJ4.out.bel.size).mono ?_
          rintro e w5 ⟨rfl, hb5, hB5, hK5⟩
          have HJ5 := Aside0.mk (HJ4.out.wrote hb5 hB5 hK5)
          clear hb5 hB5 hK5
          go_wp2_with fail
          go_roundg (l0.length - (0 + 1))
          case measure => exact drop_less hlt hkk
          case rel => exact ⟨0 + 1, _, Nat.le_refl _, by first | rfl | rw [hw64], ⟨⟨hlt, HJ5.out.bel, HJ5.out.bld, H4.out⟩⟩⟩
      · have hi1 : (0 : Int) < (i : Int) := by omega
        have hi2 : 0 < i := by omega
        have hs1 : IntKind.i64.wrap ((i : Int) - 1) = (i : Int) - 1 := by
          rw [i64_w]
          unfold wrap64
          omega
        obtain ⟨ad, e175, hx0, hx1, hx2, hx3, hx4⟩ := at_T43 HR0.out ((i : Int) - 1) (by omega) (by omega)
        cases e175
        replace hx0 := (HJ.out.bel.cell (World.block_lt_of_cell? w _ hx0)).trans hx0
        replace hx1 := (HJ.out.bel.cell (World.block_lt_of_cell? w _ hx1)).trans hx1
        replace hx2 := (HJ.out.bel.cell (World.block_lt_of_cell? w _ hx2)).trans hx2
        replace hx3 := (HJ.out.bel.cell (World.block_lt_of_cell? w _ hx3)).trans hx3
        replace hx4 := (HJ.out.bel.cell (World.block_lt_of_cell? w _ hx4)).trans hx4
        have eN : ((i : Int) - 1).toNat = i - 1 := by omega
        have hi3 : (0 : Int) ≤ (i : Int) - 1 := by omega
        have hi4 : (i : Int) - 1 < (l0.length : Int) := by omega
        have hi5 : i - 1 < l0.length := by omega
        rw [eN] at hx0 hx1 hx2 hx3 hx4
        have hc := Aside0.mk (fun W hW => lex_apart.calls _ _ _ _ _ _ _ _ _ _ b W (by unfold joinStep at h1; rw [if_neg hi0] at h1; exact h1) hW)
        clear h1
        go_region_with (go_at_call 36; refine (hc.out _ (GL.below HG.out (HJ.out.bel.trans (Below.mono (by repeat (first | exact below_drewN' _ _ | exact Below.refl _ _ | apply Below.drew)) HJ.out.bel.size)))).mono ?_; rintro e w2 ⟨rfl, hB2⟩)
        all_goals
          have HJ2 := Aside0.mk (HJ.out.below (Below.trans (by repeat (first | exact below_drewN' _ _ | exact Below.refl _ _ | apply Below.drew)) hB2))
          clear hB2 k0 k1 k2 k3 k4 hx0 hx1 hx2 hx3 hx4
          cases b with
          | true =>
            have HJ3 : Aside0 (JoinIn w bb tb (rd_T43 l0 (i : Int)) (acc ++ sepB true) w2) := ⟨by rw [show sepB true = [] from rfl, List.append_nil]; exact HJ2.out⟩
            clear HJ2
            have hk := HJ3.out.tok.cells
            have y0 := hk.1
            have y1 := hk.2.1
            have y2 := hk.2.2.1
            have y3 := hk.2.2.2.1
            have y4 := hk.2.2.2.2
            clear hk
            go_wp2_with fail
            refine (lex_written.calls _ _ _ _ _ t _ H2.out (GL.below HG.out HJ3.out.bel)).mono ?_
            rintro e w4 ⟨rfl, hB4⟩
            have HJ4 := Aside0.mk (HJ3.out.below hB4)
            clear y0 y1 y2 y3 y4 hB4
            go_wp2_with fail
            refine (bld_str w.heap.size bb _ t _ HJ4.out.bld (join_len H3.out) HJ4.out.bel.size).mono ?_
            rintro e w5 ⟨rfl, hb5, hB5, hK5⟩
            have HJ5 := Aside0.mk (HJ4.out.wrote hb5 hB5 hK5)
            clear hb5 hB5 hK5
            go_wp2_with fail
            go_roundg (l0.length - (i + 1))
            case measure => exact drop_less hlt hkk
            case rel => exact ⟨i + 1, _, Nat.le_refl _, by first | rfl | rw [hw64], ⟨⟨hlt, HJ5.out.bel, HJ5.out.bld, H4.out⟩⟩⟩
          | false =>
            go_wp2_with fail
            refine (bld_byte w.heap.size bb _ 32 w2 HJ2.out.bld (join_one H3.out) HJ2.out.bel.size).mono ?_
            rintro e w3 ⟨rfl, hb3, hB3, hK3⟩
            have HJ3 : Aside0 (JoinIn w bb tb (rd_T43 l0 (i : Int)) (acc ++ sepB false) w3) := ⟨HJ2.out.wrote hb3 hB3 hK3⟩
            clear HJ2 hb3 hB3 hK3
            have hk := HJ3.out.tok.cells
            have y0 := hk.1
            have y1 := hk.2.1
            have y2 := hk.2.2.1
            have y3 := hk.2.2.2.1
            have y4 := hk.2.2.2.2
            clear hk
            go_wp2_with fail
            refine (lex_written.calls _ _ _ _ _ t _ H2.out (GL.below HG.out HJ3.out.bel)).mono ?_
            rintro e w4 ⟨rfl, hB4⟩
            have HJ4 := Aside0.mk (HJ3.out.below hB4)
            clear y0 y1 y2 y3 y4 hB4
            go_wp2_with fail
            refine (bld_str w.heap.size bb _ t _ HJ4.out.bld (join_len H3.out) HJ4.out.bel.size).mono ?_
            rintro e w5 ⟨rfl, hb5, hB5, hK5⟩
            have HJ5 := Aside0.mk (HJ4.out.wrote hb5 hB5 hK5)
            clear hb5 hB5 hK5
            go_wp2_with fail
            go_roundg (l0.length - (i + 1))
            case measure => exact drop_less hlt hkk
            case rel => exact ⟨i + 1, _, Nat.le_refl _, by first | rfl | rw [hw64], ⟨⟨hlt, HJ5.out.bel, HJ5.out.bld, H4.out⟩⟩⟩
    · have hlt2 : ¬ (i : Int) < (l0.length : Int) := by omega
      have hacc : acc = out := by
        have := HI.out.eq
        rw [show l0.length - i = 0 by omega, joinFrom] at this
        injection this
      subst hacc
      go_wp2_with fail
      refine (bld_len w.heap.size bb _ wr HI.out.bld).mono ?_
      rintro e w2 ⟨rfl, rfl⟩
      by_cases hbig : 100000 < acc.length
      · have hbig2 : (100000 : Int) < (acc.length : Int) := by omega
        go_wp2_with fail
        go_ret2
        exact ⟨rfl, HI.out.bel⟩
      · have hbig2 : ¬ (100000 : Int) < (acc.length : Int) := by omega
        go_wp2_with fail
        refine (bld_string w.heap.size bb _ _ HI.out.bld HI.out.bel.size).mono ?_
        rintro e w3 ⟨rfl, hB3⟩
        have HB3 := Aside0.mk (HI.out.bel.trans hB3)
        clear hB3
        go_wp2_with fail
        go_ret2
        exact ⟨rfl, HB3.out⟩
set_option maxHeartbeats 8000000 in
set_option maxRecDepth 100000 in
theorem join_not (A0 : Option Addr) (c0 : Nat) (l0 : List S43) (w : World) (hr0 : Kd.C k43 w A0 l0.length l0) (hc0 : l0.length ≤ c0) (hR : lex_right.f l0 = some false) (hG : GL w) :
    Calls Tryd.prog 23 #[.slice A0 l0.length c0] w fun e w' => e = .returned (.tuple #[.string ⟨#[]⟩, .int .i64 1]) ∧ Below w.heap.size w w' := by
  have hx := Aside0.mk (lex_right.calls A0 c0 l0 false w hr0 hc0 hR hG)
  clear hr0 hc0 hG hR
  go_enter Tryd.func23, Tryd.ntmps23
  go_wp2_with fail
  refine hx.out.mono ?_
  rintro e w1 ⟨rfl, hB⟩
  have HB := Aside0.mk hB
  clear hB hx
  go_wp2_with fail
  go_ret2
  exact ⟨rfl, HB.out⟩
set_option maxHeartbeats 8000000 in
set_option maxRecDepth 100000 in
theorem join_many (A0 : Option Addr) (c0 : Nat) (l0 : List S43) (w : World) (hr0 : Kd.C k43 w A0 l0.length l0) (hc0 : l0.length ≤ c0) (hR : lex_right.f l0 = some true) (hn : 20000 < l0.length) (hG : GL w) :
    Calls Tryd.prog 23 #[.slice A0 l0.length c0] w fun e w' => e = .returned (.tuple #[.string ⟨#[]⟩, .int .i64 2]) ∧ Below w.heap.size w w' := by
  have hx := Aside0.mk (lex_right.calls A0 c0 l0 true w hr0 hc0 hR hG)
  have hn2 : (20000 : Int) < (l0.length : Int) := by omega
  clear hr0 hc0 hG hR
  go_enter Tryd.func23, Tryd.ntmps23
  go_wp2_with fail
  refine hx.out.mono ?_
  rintro e w1 ⟨rfl, hB⟩
  have HB := Aside0.mk hB
  clear hB hx
  go_wp2_with fail
  go_ret2
  exact ⟨rfl, HB.out⟩
theorem lex_Join.calls (A0 : Option Addr) (c0 : Nat) (l0 : List (S43)) (r1 : ByteArray) (r2 : Int) (w : World) (hr0 : Kd.C k43 w A0 l0.length l0) (hc0 : l0.length ≤ c0) (h : lex_Join.f l0 = some (r1, r2)) (hG : GL w) :
    Calls Tryd.prog 23 #[.slice A0 l0.length c0] w fun e w' => e = .returned (.tuple #[.string r1, .int .i64 r2]) ∧ Below w.heap.size w w' := by
  unfold lex_Join.f at h
  obtain ⟨b, hb, h⟩ := Option.bind_eq_some_iff.mp h
  cases b with
  | false =>
    injection h with h
    injection h with h1 h2
    subst h1 h2
    exact join_not A0 c0 l0 w hr0 hc0 hb hG
  | true =>
    rw [if_pos rfl] at h
    split at h
    · rename_i hn
      injection h with h
      injection h with h1 h2
      subst h1 h2
      exact join_many A0 c0 l0 w hr0 hc0 hb hn hG
    · rename_i hn
      obtain ⟨o, ho, h⟩ := Option.bind_eq_some_iff.mp h
      refine (join_done A0 c0 l0 o w hr0 hc0 hb (by omega) ho hG).mono ?_
      rintro e w' ⟨rfl, hB⟩
      split at h
      · rename_i hbig
        injection h with h
        injection h with h1 h2
        subst h1 h2
        exact ⟨by rw [if_pos hbig, if_pos hbig], hB⟩
      · rename_i hbig
        injection h with h
        injection h with h1 h2
        subst h1 h2
        exact ⟨by rw [if_neg hbig, if_neg hbig], hB⟩


/-! ### strings_Count: function 14 -/
def strings_Count.f (a0 : ByteArray) (a1 : ByteArray) : Option (Int) := if a1.size = 1 then some (Lib.countByte a0.data.toList (a1.data.toList.getD 0 0) : Int) else none
theorem strings_Count.calls (a0 : ByteArray) (a1 : ByteArray) (r : Int) (w : World) (h : strings_Count.f a0 a1 = some r) :
    Calls Tryd.prog 14 #[.string a0, .string a1] w fun e w' => e = .returned (.int .i64 r) ∧ Drawn0 w w' := by
  unfold strings_Count.f at h
  split at h
  case isFalse => cases h
  rename_i hs
  injection h with h
  subst h
  refine (count_any a0 a1 hs w).mono ?_
  rintro e w' ⟨rfl, rfl⟩
  exact ⟨rfl, Drawn0.refl _⟩


/-! ### strings_LastIndexByte: function 42 -/
def strings_LastIndexByte.f (a0 : ByteArray) (a1 : Int) : Option (Int) := if a0.size < 4611686018427387904 then some (Lib.lastIndexByte a0 a1) else none
theorem strings_LastIndexByte.calls (a0 : ByteArray) (a1 : Int) (r : Int) (w : World) (h : strings_LastIndexByte.f a0 a1 = some r) :
    Calls Tryd.prog 42 #[.string a0, .int .u8 a1] w fun e w' => e = .returned (.int .i64 r) ∧ Drawn0 w w' := by
  unfold strings_LastIndexByte.f at h
  split at h
  case isFalse => cases h
  rename_i hs
  injection h with h
  subst h
  refine (Tryd.strings_LastIndexByte a0 a1 hs w).mono ?_
  rintro e w' ⟨rfl, rfl⟩
  exact ⟨rfl, Drawn0.refl _⟩


/-! ### lex_Place: function 24 -/
def lex_Place.j0 : Nat → ByteArray → Int → Bool → Option (Int × Int × Int)
  | 0, _, _, _ => none
  | k + 1, x0, x1, x15 => if x15 = true then (some (0, 0, 1)) else (if 0 ≤ x1 then (if x1 ≤ (x0.size : Int) then ((strings_Count.f (x0.extract 0 (x1 : Int).toNat) (⟨#[10]⟩ : ByteArray)).bind fun t149 => ((strings_LastIndexByte.f (x0.extract 0 (x1 : Int).toNat) 10).bind fun t150 => (some (wrap64 (1 + t149), wrap64 (x1 - t150), 0)))) else (none)) else (none))
def lex_Place.f (k : Nat) (a0 : ByteArray) (a1 : Int) : Option (Int × Int × Int) := if a1 < 0 then (lex_Place.j0 k a0 a1 true) else (lex_Place.j0 k a0 a1 (decide (a1 > (a0.size : Int))))
theorem lex_Place.mono_l : ∀ k, (∀ y0 y1 y2, LeO (lex_Place.j0 k y0 y1 y2) (lex_Place.j0 (k + 1) y0 y1 y2))
  | 0 => fun _ _ _ r h => by simp [lex_Place.j0] at h
  | k + 1 => by
    have ih0 := lex_Place.mono_l k
    · intro y0 y1 y2
      unfold lex_Place.j0
      repeat' first
      | (with_reducible exact ih0 _ _ _)
      | (with_reducible exact LeO.refl _)
      | (with_reducible exact LeO.none _)
      | (with_reducible refine LeO.ite ?_ ?_)
      | (with_reducible refine LeO.bind ?_ (fun _ => ?_))
      | exact ih0 _ _ _
      | exact LeO.none _
      | refine LeO.ite ?_ ?_
      | refine LeO.bind ?_ (fun _ => ?_)
theorem lex_Place.mono : ∀ a0 a1 k, LeO (lex_Place.f k a0 a1) (lex_Place.f (k + 1) a0 a1) := by
  intro a0 a1 k
  have ih0 := lex_Place.mono_l k
  unfold lex_Place.f
  repeat' first
      | (with_reducible exact ih0 _ _ _)
      | (with_reducible exact LeO.refl _)
      | (with_reducible exact LeO.none _)
      | (with_reducible refine LeO.ite ?_ ?_)
      | (with_reducible refine LeO.bind ?_ (fun _ => ?_))
      | exact ih0 _ _ _
      | exact LeO.none _
      | refine LeO.ite ?_ ?_
      | refine LeO.bind ?_ (fun _ => ?_)
set_option maxHeartbeats 8000000 in
set_option maxRecDepth 100000 in
theorem lex_Place.calls (k : Nat) (a0 : ByteArray) (a1 : Int) (r1 : Int) (r2 : Int) (r3 : Int) (w : World) (h : lex_Place.f k a0 a1 = some (r1, r2, r3)) :
    Calls Tryd.prog 24 #[.string a0, .int .i64 a1] w fun e w' => e = .returned (.tuple #[.int .i64 r1, .int .i64 r2, .int .i64 r3]) ∧ Drawn0 w w' := by
  have H : (if a1 < 0 then (lex_Place.j0 k a0 a1 true) else (lex_Place.j0 k a0 a1 (decide (a1 > (a0.size : Int))))) = some (r1, r2, r3) := h
  clear h
  have HC3 := Aside0.mk H
  clear H
  go_enter Tryd.func24, Tryd.ntmps24
  go_upto_region 1 with (fail)
  go_cut [15] (fun v15 wc => ∃ (kq : Nat) (x15_2 : Bool), v15 = .bool x15_2 ∧ Aside0 (lex_Place.j0 kq a0 a1 x15_2 = some (r1, r2, r3)) ∧ Aside0 (kq ≤ k) ∧ Drawn0 w wc)
  case first =>
    have H := HC3.out
    clear HC3
    by_cases c4 : a1 < 0
    · rw [if_pos c4] at H
      have c4b0 : decide (a1 < 0) = true := decide_eq_true c4
      clear c4
      (first | rw [c4b0] | (simp only [i64_w, i32_w]; rw [c4b0]) | skip)
      have H' := Aside0.mk H
      clear H
      go_wp2
      go_meet
      case rel => exact ⟨_, (true), (by first | rfl | (simp; done) | (simp [*]; done)), H', ⟨by first | omega | exact Nat.le_refl _⟩, by repeat (first | exact Drawn0.refl _ | apply Drawn0.step)⟩
    · rw [if_neg c4] at H
      have c4b0 : decide (a1 < 0) = false := decide_eq_false c4
      clear c4
      (first | rw [c4b0] | (simp only [i64_w, i32_w]; rw [c4b0]) | skip)
      have H' := Aside0.mk H
      clear H
      go_wp2
      go_meet
      case rel => exact ⟨_, (decide (a1 > (a0.size : Int))), (by first | rfl | (simp; done) | (simp [*]; done)), H', ⟨by first | omega | exact Nat.le_refl _⟩, by repeat (first | exact Drawn0.refl _ | apply Drawn0.step)⟩
  case rest =>
    clear HC3
    try clear c2
    try clear p2
    try clear c4
    try clear c4b0
    obtain ⟨kq, x15_2, rfl, HA, HJ2, ⟨mc2, rfl⟩⟩ := hcut
    cases kq with
    | zero => exact absurd HA.out (by simp [lex_Place.j0])
    | succ kj2 =>
      have H := HA.out
      clear HA
      simp only [lex_Place.j0] at H
      by_cases c5 : x15_2 = true
      · subst c5
        have H1 : (some (0, 0, 1)) = some (r1, r2, r3) := by rw [if_pos rfl] at H; exact H
        clear H
        have H := H1
        clear H1
        simp only [Option.some.injEq, Prod.mk.injEq] at H
        obtain ⟨rfl, rfl, rfl⟩ := H
        go_wp2
        go_ret3
        exact ⟨by first | rfl | (simp; done) | (simp [*]; done), by repeat (first | exact Drawn0.refl _ | apply Drawn0.step)⟩
      · replace c5 := Bool.eq_false_iff.mpr c5
        subst c5
        have H1 : (if 0 ≤ a1 then (if a1 ≤ (a0.size : Int) then ((strings_Count.f (a0.extract 0 (a1 : Int).toNat) (⟨#[10]⟩ : ByteArray)).bind fun t149 => ((strings_LastIndexByte.f (a0.extract 0 (a1 : Int).toNat) 10).bind fun t150 => (some (wrap64 (1 + t149), wrap64 (a1 - t150), 0)))) else (none)) else (none)) = some (r1, r2, r3) := by rw [if_neg (show ¬ (false = true) by decide)] at H; exact H
        clear H
        have H := H1
        clear H1
        by_cases c6 : 0 ≤ a1
        · rw [if_pos c6] at H
          have c6b0 := eq_true c6
          have c6b1 : decide (0 ≤ a1) = true := decide_eq_true c6
          clear c6
          by_cases c7 : a1 ≤ (a0.size : Int)
          · rw [if_pos c7] at H
            have c7b0 := eq_true c7
            have c7b1 : decide (a1 ≤ (a0.size : Int)) = true := decide_eq_true c7
            clear c7
            replace H := Option.bind_eq_some_iff.mp H
            obtain ⟨t149, A80, H⟩ := H
            replace H : ((strings_LastIndexByte.f (a0.extract 0 (a1 : Int).toNat) 10).bind fun t150 => (some (wrap64 (1 + t149), wrap64 (a1 - t150), 0))) = some (r1, r2, r3) := H
            have A8 := Aside0.mk A80
            clear A80
            replace H := Option.bind_eq_some_iff.mp H
            obtain ⟨t150, A90, H⟩ := H
            replace H : (some (wrap64 (1 + t149), wrap64 (a1 - t150), 0)) = some (r1, r2, r3) := H
            have A9 := Aside0.mk A90
            clear A90
            simp only [Option.some.injEq, Prod.mk.injEq] at H
            obtain ⟨rfl, rfl, rfl⟩ := H
            go_wp2_with (first | ((with_reducible refine gate_callee (f := 14) rfl ?_); refine goesL_ (some 20) rfl rfl Tryd.func14 (by kernel_rfl) rfl #[.string (a0.extract 0 (a1 : Int).toNat), .string (⟨#[10]⟩ : ByteArray)] rfl (by (try simp only [List.map_toArray, List.map_cons, List.map_nil]); first | done | rfl | (simp only [List.length_drop, List.length_take]; rfl)) ?_; (with_reducible refine (strings_Count.calls (a0.extract 0 (a1 : Int).toNat) (⟨#[10]⟩ : ByteArray) t149 _ A8.out).mono ?_); rintro e w' ⟨rfl, ⟨nd, rfl⟩⟩; refine ⟨_, rfl, ?_⟩) | ((with_reducible refine gate_callee (f := 42) rfl ?_); refine goesL_ (some 24) rfl rfl Tryd.func42 (by kernel_rfl) rfl #[.string (a0.extract 0 (a1 : Int).toNat), .int .u8 10] rfl (by (try simp only [List.map_toArray, List.map_cons, List.map_nil]); first | done | rfl | (simp only [List.length_drop, List.length_take]; rfl)) ?_; (with_reducible refine (strings_LastIndexByte.calls (a0.extract 0 (a1 : Int).toNat) 10 t150 _ A9.out).mono ?_); rintro e w' ⟨rfl, ⟨nd, rfl⟩⟩; refine ⟨_, rfl, ?_⟩))
            go_ret3
            exact ⟨by first | rfl | (simp; done) | (simp [*]; done), by repeat (first | exact Drawn0.refl _ | apply Drawn0.step)⟩
          · rw [if_neg c7] at H
            exact absurd H (by simp)
        · rw [if_neg c6] at H
          exact absurd H (by simp)

/-! ### madrigallaw01_sane: function 7 -/
theorem sane_has1 : madrigallaw01_has.f 30 (⟨#[80, 91, 97, 93, 62, 62, 98, 59, 105]⟩ : ByteArray) ([⟨#[80]⟩, ⟨#[91]⟩, ⟨#[97]⟩, ⟨#[93]⟩, ⟨#[62, 62]⟩, ⟨#[98]⟩, ⟨#[59]⟩, ⟨#[105]⟩] : List ByteArray) ([0, 1, 2, 3, 4, 6, 7, 8] : List Int) = some true := by decide +kernel
theorem sane_has2 : madrigallaw01_has.f 30 (⟨#[120, 39, 32, 58, 61, 32, 49, 50, 46, 46, 53, 32, 40, 42, 32, 40, 42, 32, 42, 41, 32, 42, 41, 32, 91, 62]⟩ : ByteArray) ([⟨#[120, 39]⟩, ⟨#[58, 61]⟩, ⟨#[49, 50]⟩, ⟨#[46, 46]⟩, ⟨#[53]⟩, ⟨#[91, 62]⟩] : List ByteArray) ([0, 3, 6, 8, 10, 24] : List Int) = some true := by decide +kernel
theorem sane_bad1 : Lex.tokensL [97, 124, 91, 98, 93, 124, 124, 99] = ([], 6, 10) := by decide +kernel
theorem sane_bad2 : Lex.tokensL [40, 42, 32, 40, 42, 32, 42, 41] = ([], 0, 10) := by decide +kernel
theorem sane_bad3 : Lex.tokensL [97, 32, 49, 50, 98] = ([], 2, 10) := by decide +kernel
theorem sane_kind1 : lex_Kind.f (⟨#[91, 93]⟩ : ByteArray) = some 5 := by decide +kernel
theorem sane_kind2 : lex_Kind.f (⟨#[61, 61, 62]⟩ : ByteArray) = some 4 := by decide +kernel
theorem sane_kind3 : lex_Kind.f (⟨#[101, 120, 105, 116]⟩ : ByteArray) = some 2 := by decide +kernel
theorem sane_kind4 : lex_Kind.f (⟨#[97, 32, 98]⟩ : ByteArray) = some 0 := by decide +kernel
def saneToks : List S43 := [⟨1, 0, ⟨#[97]⟩, 0, 0⟩, ⟨1, 0, ⟨#[98]⟩, 0, 0⟩, ⟨5, 0, ⟨#[91]⟩, 0, 0⟩, ⟨5, 0, ⟨#[93]⟩, 0, 0⟩, ⟨5, 0, ⟨#[40]⟩, 0, 0⟩, ⟨4, 0, ⟨#[42]⟩, 0, 0⟩, ⟨5, 0, ⟨#[61]⟩, 0, 0⟩]
theorem sane_join : lex_Join.f saneToks = some (⟨#[97, 32, 98, 91, 32, 93, 40, 32, 42, 32, 61]⟩, 0) := by decide +kernel
theorem sane_place : lex_Place.f 30 (⟨#[10, 97, 98]⟩ : ByteArray) 2 = some (2, 2, 0) := by decide +kernel
theorem sane_strip : Lex.stripL [97, 40, 42, 98, 42, 41, 99] = ([97, 32, 32, 32, 32, 32, 99], 0) := by decide +kernel
theorem C_cells {α : Type} (enc : α → Value) (h1 : ∀ x, (enc x).oneCell' = true) {w : World} {b e : Nat} {f : Nat × Nat} (l : List α) (h : w.heap[b]? = some (.cells (l.map enc).toArray e f)) (hl : l.length ≤ 9223372036854775807) : (Kd.scalar enc h1).C w (some ⟨b, 0, none⟩) l.length l := by
  refine ⟨rfl, hl, fun _ => ⟨_, rfl, fun j p hj => ⟨[enc p], rfl, rfl, fun i u hu => ?_⟩⟩⟩
  cases i with
  | succ i => simp at hu
  | zero =>
    simp at hu
    subst hu
    have ha : (⟨b, 0, none⟩ : Addr).add (j * 1 + 0) = ⟨b, j, none⟩ := by
      unfold Addr.add
      split
      · rename_i h0; rw [show j = 0 by omega]
      · simp
    show w.cell? ((⟨b, 0, none⟩ : Addr).add (j * 1 + 0)) = _
    rw [ha, cell_of_row w b j _ _ _ h]
    simp [hj]
theorem two_new (W : World) (o1 o2 : Obj) : ((W.alloc o1).alloc o2).heap[W.heap.size]? = some o1 ∧ ((W.alloc o1).alloc o2).heap[W.heap.size + 1]? = some o2 := by
  have s1 : (W.alloc o1).heap.size = W.heap.size + 1 := Array.size_push _
  have b2 := Array.getElem?_push_size (xs := (W.alloc o1).heap) (x := o2)
  rw [s1] at b2
  exact ⟨((below_alloc (w := W.alloc o1) (Below.refl _ _) o2).block W.heap.size (by rw [s1]; omega)).trans Array.getElem?_push_size, b2⟩
theorem has_go (t : ByteArray) (ws : List ByteArray) (at_ : List Int) (h : madrigallaw01_has.f 30 t ws at_ = some true) (h1 : ws.length ≤ 1000) (h2 : at_.length ≤ 1000) (w W : World) (hG : GL w) (hB : Below w.heap.size w W) :
    Calls Tryd.prog 19 #[.string t, .slice (some ⟨W.heap.size, 0, none⟩) ws.length ws.length, .slice (some ⟨W.heap.size + 1, 0, none⟩) at_.length at_.length] ((W.alloc (Obj.cells (ws.map Value.string).toArray 9)).alloc (Obj.cells (at_.map (Value.int .i64)).toArray 3)) fun e w' => e = .returned (.bool true) ∧ Below w.heap.size w w' := by
  have hn := two_new W (Obj.cells (ws.map Value.string).toArray 9) (Obj.cells (at_.map (Value.int .i64)).toArray 3)
  have hB2 : Below w.heap.size w ((W.alloc (Obj.cells (ws.map Value.string).toArray 9)).alloc (Obj.cells (at_.map (Value.int .i64)).toArray 3)) := below_alloc (below_alloc hB _) _
  refine (madrigallaw01_has.calls 30 t _ _ ws _ _ at_ true _ (C_cells _ _ ws hn.1 (by omega)) (Nat.le_refl _) (C_cells _ _ at_ hn.2 (by omega)) (Nat.le_refl _) h (GL.below hG hB2)).mono ?_
  rintro e w' ⟨rfl, hb⟩
  exact ⟨rfl, hB2.trans (hb.mono hB2.size)⟩
theorem sane_h1 (w W : World) (hG : GL w) (hB : Below w.heap.size w W) :
    Calls Tryd.prog 19 #[.string ⟨#[80, 91, 97, 93, 62, 62, 98, 59, 105]⟩, .slice (some ⟨W.heap.size, 0, none⟩) 8 8, .slice (some ⟨W.heap.size + 1, 0, none⟩) 8 8] ((W.alloc (Obj.cells #[.string ⟨#[80]⟩, .string ⟨#[91]⟩, .string ⟨#[97]⟩, .string ⟨#[93]⟩, .string ⟨#[62, 62]⟩, .string ⟨#[98]⟩, .string ⟨#[59]⟩, .string ⟨#[105]⟩] 9)).alloc (Obj.cells #[.int .i64 0, .int .i64 1, .int .i64 2, .int .i64 3, .int .i64 4, .int .i64 6, .int .i64 7, .int .i64 8] 3)) fun e w' => e = .returned (.bool true) ∧ Below w.heap.size w w' :=
  has_go _ ([⟨#[80]⟩, ⟨#[91]⟩, ⟨#[97]⟩, ⟨#[93]⟩, ⟨#[62, 62]⟩, ⟨#[98]⟩, ⟨#[59]⟩, ⟨#[105]⟩] : List ByteArray) ([0, 1, 2, 3, 4, 6, 7, 8] : List Int) sane_has1 (by decide) (by decide) w W hG hB
theorem sane_h2 (w W : World) (hG : GL w) (hB : Below w.heap.size w W) :
    Calls Tryd.prog 19 #[.string ⟨#[120, 39, 32, 58, 61, 32, 49, 50, 46, 46, 53, 32, 40, 42, 32, 40, 42, 32, 42, 41, 32, 42, 41, 32, 91, 62]⟩, .slice (some ⟨W.heap.size, 0, none⟩) 6 6, .slice (some ⟨W.heap.size + 1, 0, none⟩) 6 6] ((W.alloc (Obj.cells #[.string ⟨#[120, 39]⟩, .string ⟨#[58, 61]⟩, .string ⟨#[49, 50]⟩, .string ⟨#[46, 46]⟩, .string ⟨#[53]⟩, .string ⟨#[91, 62]⟩] 9)).alloc (Obj.cells #[.int .i64 0, .int .i64 3, .int .i64 6, .int .i64 8, .int .i64 10, .int .i64 24] 3)) fun e w' => e = .returned (.bool true) ∧ Below w.heap.size w w' :=
  has_go _ ([⟨#[120, 39]⟩, ⟨#[58, 61]⟩, ⟨#[49, 50]⟩, ⟨#[46, 46]⟩, ⟨#[53]⟩, ⟨#[91, 62]⟩] : List ByteArray) ([0, 3, 6, 8, 10, 24] : List Int) sane_has2 (by decide) (by decide) w W hG hB
set_option maxHeartbeats 8000000 in
set_option maxRecDepth 100000 in
theorem sane_sym (s : ByteArray) (w0 w : World) (hB : Below w0.heap.size w0 w) : Calls Tryd.prog 20 #[.string s] w fun e w' => e = .returned (.agg #[.int .i64 4, .int .i64 0, .string s, .int .i64 0, .int .i64 0]) ∧ Below w0.heap.size w0 w' := by
  have hl := fun o : Obj => (Array.getElem?_push_size (xs := w.heap) (x := o))
  go_enter Tryd.func20, Tryd.ntmps20
  go_wp2_with fail
  simp only [bodyPost, results, Tryd.results20]
  go_simp
  exact below_alloc hB _
set_option maxHeartbeats 8000000 in
set_option maxRecDepth 100000 in
theorem sane_sign (s : ByteArray) (w0 w : World) (hB : Below w0.heap.size w0 w) : Calls Tryd.prog 21 #[.string s] w fun e w' => e = .returned (.agg #[.int .i64 5, .int .i64 0, .string s, .int .i64 0, .int .i64 0]) ∧ Below w0.heap.size w0 w' := by
  have hl := fun o : Obj => (Array.getElem?_push_size (xs := w.heap) (x := o))
  go_enter Tryd.func21, Tryd.ntmps21
  go_wp2_with fail
  simp only [bodyPost, results, Tryd.results21]
  go_simp
  exact below_alloc hB _
set_option maxHeartbeats 8000000 in
set_option maxRecDepth 100000 in
theorem sane_name (s : ByteArray) (w0 w : World) (hB : Below w0.heap.size w0 w) : Calls Tryd.prog 22 #[.string s] w fun e w' => e = .returned (.agg #[.int .i64 1, .int .i64 0, .string s, .int .i64 0, .int .i64 0]) ∧ Below w0.heap.size w0 w' := by
  have hl := fun o : Obj => (Array.getElem?_push_size (xs := w.heap) (x := o))
  go_enter Tryd.func22, Tryd.ntmps22
  go_wp2_with fail
  simp only [bodyPost, results, Tryd.results22]
  go_simp
  exact below_alloc hB _
def saneTab : Array Value := #[.string ⟨#[97, 124, 91, 98, 93, 124, 124, 99]⟩, .int .i64 6, .string ⟨#[40, 42, 32, 40, 42, 32, 42, 41]⟩, .int .i64 0, .string ⟨#[97, 32, 49, 50, 98]⟩, .int .i64 2]
structure SaneAt (w : World) (tb : Nat) (W : World) : Prop where
  bel : Below w.heap.size w W
  tab : W.heap[tb]? = some (.cells saneTab 40 (0, 0))
theorem SaneAt.below {w : World} {tb : Nat} {W W2 : World} (h : SaneAt w tb W) (hb : Below W.heap.size W W2) : SaneAt w tb W2 :=
  ⟨h.bel.trans (hb.mono h.bel.size), (hb.block tb (Array.getElem?_eq_some_iff.1 h.tab).1).trans h.tab⟩
theorem SaneAt.cells {w : World} {tb : Nat} {W : World} (h : SaneAt w tb W) (j : Nat) : W.cell? ⟨tb, j, none⟩ = saneTab[j]? := cell_of_row W tb j _ _ _ h.tab
theorem bad_go (t : ByteArray) (p : Nat) (h : Lex.tokensL t.data.toList = ([], p, 10)) (hs : t.size ≤ 140737488351232) (W : World) (hG : GL W) :
    Calls Tryd.prog 9 #[.string t] W fun e w' => ∃ A c, e = .returned (.tuple #[.slice A 0 c, .int .i64 (p : Int), .int .i64 10]) ∧ Below W.heap.size W w' := by
  refine (tokens_any t W hs hG).mono ?_
  rintro e w' ⟨v, rfl, ho, hB⟩
  rw [h] at ho ⊢
  obtain ⟨A, c, rfl⟩ := own_form ho
  exact ⟨A, c, rfl, hB⟩
def tkCells (x : S43) : List Value := [.int .i64 x.f0, .int .i64 x.f1, .string x.f2, .int .i64 x.f3, .int .i64 x.f4]
theorem join_go (W w : World) (hG : GL w) (hB : Below w.heap.size w W) :
    Calls Tryd.prog 23 #[.slice (some ⟨W.heap.size, 0, none⟩) 7 7] (W.alloc (Obj.cells #[.int .i64 1, .int .i64 0, .string ⟨#[97]⟩, .int .i64 0, .int .i64 0, .int .i64 1, .int .i64 0, .string ⟨#[98]⟩, .int .i64 0, .int .i64 0, .int .i64 5, .int .i64 0, .string ⟨#[91]⟩, .int .i64 0, .int .i64 0, .int .i64 5, .int .i64 0, .string ⟨#[93]⟩, .int .i64 0, .int .i64 0, .int .i64 5, .int .i64 0, .string ⟨#[40]⟩, .int .i64 0, .int .i64 0, .int .i64 4, .int .i64 0, .string ⟨#[42]⟩, .int .i64 0, .int .i64 0, .int .i64 5, .int .i64 0, .string ⟨#[61]⟩, .int .i64 0, .int .i64 0] 43)) fun e w' => e = .returned (.tuple #[.string ⟨#[97, 32, 98, 91, 32, 93, 40, 32, 42, 32, 61]⟩, .int .i64 0]) ∧ Below w.heap.size w w' := by
  have ho := World.ownsRow_lit (base := 0) (e := 43) (size := 5) W #[.int .i64 1, .int .i64 0, .string ⟨#[97]⟩, .int .i64 0, .int .i64 0, .int .i64 1, .int .i64 0, .string ⟨#[98]⟩, .int .i64 0, .int .i64 0, .int .i64 5, .int .i64 0, .string ⟨#[91]⟩, .int .i64 0, .int .i64 0, .int .i64 5, .int .i64 0, .string ⟨#[93]⟩, .int .i64 0, .int .i64 0, .int .i64 5, .int .i64 0, .string ⟨#[40]⟩, .int .i64 0, .int .i64 0, .int .i64 4, .int .i64 0, .string ⟨#[42]⟩, .int .i64 0, .int .i64 0, .int .i64 5, .int .i64 0, .string ⟨#[61]⟩, .int .i64 0, .int .i64 0] 7 (Nat.zero_le _) (by decide) rfl
  have hR : Kd.R k43 43 (W.alloc (Obj.cells #[.int .i64 1, .int .i64 0, .string ⟨#[97]⟩, .int .i64 0, .int .i64 0, .int .i64 1, .int .i64 0, .string ⟨#[98]⟩, .int .i64 0, .int .i64 0, .int .i64 5, .int .i64 0, .string ⟨#[91]⟩, .int .i64 0, .int .i64 0, .int .i64 5, .int .i64 0, .string ⟨#[93]⟩, .int .i64 0, .int .i64 0, .int .i64 5, .int .i64 0, .string ⟨#[40]⟩, .int .i64 0, .int .i64 0, .int .i64 4, .int .i64 0, .string ⟨#[42]⟩, .int .i64 0, .int .i64 0, .int .i64 5, .int .i64 0, .string ⟨#[61]⟩, .int .i64 0, .int .i64 0] 43)) 0 (fun _ => True) (.slice (some ⟨W.heap.size, 0, none⟩) 7 7) (saneToks.map id) :=
    ⟨fun _ _ => trivial, saneToks.flatMap tkCells, ho, reps_flat id tkCells (fun _ => rfl) (fun x => k43_mkM _ _ _ x) saneToks⟩
  have hB2 := below_alloc hB (Obj.cells #[.int .i64 1, .int .i64 0, .string ⟨#[97]⟩, .int .i64 0, .int .i64 0, .int .i64 1, .int .i64 0, .string ⟨#[98]⟩, .int .i64 0, .int .i64 0, .int .i64 5, .int .i64 0, .string ⟨#[91]⟩, .int .i64 0, .int .i64 0, .int .i64 5, .int .i64 0, .string ⟨#[93]⟩, .int .i64 0, .int .i64 0, .int .i64 5, .int .i64 0, .string ⟨#[40]⟩, .int .i64 0, .int .i64 0, .int .i64 4, .int .i64 0, .string ⟨#[42]⟩, .int .i64 0, .int .i64 0, .int .i64 5, .int .i64 0, .string ⟨#[61]⟩, .int .i64 0, .int .i64 0] 43)
  refine (lex_Join.calls _ 7 saneToks _ _ _ (Kd.R_reads' hR).2.2 (Nat.le_refl _) sane_join (GL.below hG hB2)).mono ?_
  rintro e w' ⟨rfl, hb⟩
  exact ⟨rfl, hB2.trans (hb.mono hB2.size)⟩
theorem strip_go (W w : World) (hG : GL w) (hB : Below w.heap.size w W) :
    Calls Tryd.prog 12 #[.string ⟨#[97, 40, 42, 98, 42, 41, 99]⟩] W fun e w' => e = .returned (.tuple #[.string ⟨#[97, 32, 32, 32, 32, 32, 99]⟩, .int .i64 0]) ∧ Below w.heap.size w w' := by
  refine (strip_any ⟨#[97, 40, 42, 98, 42, 41, 99]⟩ W (by decide) (GL.below hG hB)).mono ?_
  rintro e w' ⟨rfl, hb⟩
  refine ⟨?_, hB.trans (hb.mono hB.size)⟩
  rw [show Lex.stripL (⟨#[97, 40, 42, 98, 42, 41, 99]⟩ : ByteArray).data.toList = _ from sane_strip]
  rfl
theorem place_go (W w : World) (hB : Below w.heap.size w W) :
    Calls Tryd.prog 24 #[.string ⟨#[10, 97, 98]⟩, .int .i64 2] W fun e w' => e = .returned (.tuple #[.int .i64 2, .int .i64 2, .int .i64 0]) ∧ Below w.heap.size w w' := by
  refine (lex_Place.calls 30 ⟨#[10, 97, 98]⟩ 2 2 2 0 W sane_place).mono ?_
  rintro e w' ⟨rfl, hb⟩
  exact ⟨rfl, hB.trans (hb.below.mono hB.size)⟩
theorem words_go (W w : World) (hG : GL w) (hB : Below w.heap.size w W) :
    Calls Tryd.prog 15 #[] W fun e w' => (∃ A, e = .returned (.slice A 37 37)) ∧ Below w.heap.size w w' := by
  refine (words_any W (GL.below hG hB)).mono ?_
  rintro e w' ⟨rfl, rfl⟩
  exact ⟨⟨_, rfl⟩, below_alloc hB _⟩
theorem signs_go (W w : World) (hG : GL w) (hB : Below w.heap.size w W) :
    Calls Tryd.prog 16 #[] W fun e w' => (∃ A, e = .returned (.slice A 24 24)) ∧ Below w.heap.size w w' := by
  refine (signs_any W (GL.below hG hB)).mono ?_
  rintro e w' ⟨rfl, rfl⟩
  exact ⟨⟨_, rfl⟩, below_alloc hB _⟩
set_option maxHeartbeats 8000000 in
set_option maxRecDepth 100000 in
theorem sane_walk (w : World) (hG : GL w) : Calls Tryd.prog 7 #[] w fun e w' => e = .returned (.bool true) ∧ Below w.heap.size w w' := by
  have HG := Aside0.mk hG
  clear hG
  go_enter Tryd.func7, Tryd.ntmps7
  go_wp2_with fail
  refine (sane_h1 w w HG.out (Below.refl _ _)).mono ?_
  rintro e w1 ⟨rfl, hB⟩
  have HB1 := Aside0.mk hB
  clear hB
  go_wp2_with fail
  refine (sane_h2 w w1 HG.out HB1.out).mono ?_
  rintro e w2 ⟨rfl, hB⟩
  have HB2 := Aside0.mk hB
  clear hB HB1
  go_wp2_with fail
  have hst : SaneAt w w2.heap.size (w2.alloc (Obj.cells saneTab 40)) := ⟨below_alloc HB2.out _, Array.getElem?_push_size⟩
  change Code.wp _ _ _ _ (w2.alloc (Obj.cells saneTab 40))
  generalize w2.alloc (Obj.cells saneTab 40) = W2 at hst ⊢
  generalize w2.heap.size = tb at hst ⊢
  clear HB2
  have Hst := Aside0.mk hst
  clear hst
  go_loopg [28] 3 (fun k t wr => ∃ j : Nat, j ≤ 3 ∧ 3 - j ≤ k ∧ t = .int .i64 (j : Int) ∧ Aside0 (SaneAt w tb wr))
  case atStart => exact ⟨0, by omega, by omega, rfl, Hst⟩
  case round =>
    obtain ⟨j, hj, hk, rfl, HI⟩ := hrel
    have hc := HI.out.cells
    have n0 : wr.cell? ⟨tb, 0, none⟩ = some (.string ⟨#[97, 124, 91, 98, 93, 124, 124, 99]⟩) := hc 0
    have n1 : wr.cell? ⟨tb, 1, none⟩ = some (.int .i64 6) := hc 1
    have n2 : wr.cell? ⟨tb, 2, none⟩ = some (.string ⟨#[40, 42, 32, 40, 42, 32, 42, 41]⟩) := hc 2
    have n3 : wr.cell? ⟨tb, 3, none⟩ = some (.int .i64 0) := hc 3
    have n4 : wr.cell? ⟨tb, 4, none⟩ = some (.string ⟨#[97, 32, 49, 50, 98]⟩) := hc 4
    have n5 : wr.cell? ⟨tb, 5, none⟩ = some (.int .i64 2) := hc 5
    clear hc
    have hnew := fun o : Obj => (Array.getElem?_push_size (xs := wr.heap) (x := o))
    rcases (by omega : j = 0 ∨ j = 1 ∨ j = 2 ∨ j = 3) with rfl | rfl | rfl | rfl
    · go_wp2_with fail
      have hN : (wr.alloc (Obj.cells #[.string ⟨#[97, 124, 91, 98, 93, 124, 124, 99]⟩, .int .i64 6] 40)).heap[wr.heap.size]? = _ := hnew _
      have hlt : wr.heap.size < (wr.alloc (Obj.cells #[.string ⟨#[97, 124, 91, 98, 93, 124, 124, 99]⟩, .int .i64 6] 40)).heap.size := (Array.getElem?_eq_some_iff.1 hN).1
      have HA := Aside0.mk (HI.out.below (below_alloc (Below.refl wr.heap.size wr) (Obj.cells #[.string ⟨#[97, 124, 91, 98, 93, 124, 124, 99]⟩, .int .i64 6] 40)))
      clear n0 n1 n2 n3 n4 n5 HI hnew
      generalize wr.alloc (Obj.cells #[.string ⟨#[97, 124, 91, 98, 93, 124, 124, 99]⟩, .int .i64 6] 40) = W3 at *
      generalize wr.heap.size = xb at *
      refine (bad_go ⟨#[97, 124, 91, 98, 93, 124, 124, 99]⟩ 6 sane_bad1 (by decide) W3 (GL.below HG.out HA.out.bel)).mono ?_
      rintro e w4 ⟨A, c, rfl, hB⟩
      have m1 : w4.cell? ⟨xb, 1, none⟩ = some (.int .i64 6) := by rw [cell_of_row w4 xb 1 _ _ _ ((hB.block xb hlt).trans hN)]; rfl
      have HA4 := Aside0.mk (HA.out.below hB)
      clear hB hN hlt HA
      go_wp2_with fail
      go_roundg 2
      case measure => omega
      case rel => exact ⟨1, by omega, by omega, rfl, HA4⟩
    · go_wp2_with fail
      have hN : (wr.alloc (Obj.cells #[.string ⟨#[40, 42, 32, 40, 42, 32, 42, 41]⟩, .int .i64 0] 40)).heap[wr.heap.size]? = _ := hnew _
      have hlt : wr.heap.size < (wr.alloc (Obj.cells #[.string ⟨#[40, 42, 32, 40, 42, 32, 42, 41]⟩, .int .i64 0] 40)).heap.size := (Array.getElem?_eq_some_iff.1 hN).1
      have HA := Aside0.mk (HI.out.below (below_alloc (Below.refl wr.heap.size wr) (Obj.cells #[.string ⟨#[40, 42, 32, 40, 42, 32, 42, 41]⟩, .int .i64 0] 40)))
      clear n0 n1 n2 n3 n4 n5 HI hnew
      generalize wr.alloc (Obj.cells #[.string ⟨#[40, 42, 32, 40, 42, 32, 42, 41]⟩, .int .i64 0] 40) = W3 at *
      generalize wr.heap.size = xb at *
      refine (bad_go ⟨#[40, 42, 32, 40, 42, 32, 42, 41]⟩ 0 sane_bad2 (by decide) W3 (GL.below HG.out HA.out.bel)).mono ?_
      rintro e w4 ⟨A, c, rfl, hB⟩
      have m1 : w4.cell? ⟨xb, 1, none⟩ = some (.int .i64 0) := by rw [cell_of_row w4 xb 1 _ _ _ ((hB.block xb hlt).trans hN)]; rfl
      have HA4 := Aside0.mk (HA.out.below hB)
      clear hB hN hlt HA
      go_wp2_with fail
      go_roundg 1
      case measure => omega
      case rel => exact ⟨2, by omega, by omega, rfl, HA4⟩
    · go_wp2_with fail
      have hN : (wr.alloc (Obj.cells #[.string ⟨#[97, 32, 49, 50, 98]⟩, .int .i64 2] 40)).heap[wr.heap.size]? = _ := hnew _
      have hlt : wr.heap.size < (wr.alloc (Obj.cells #[.string ⟨#[97, 32, 49, 50, 98]⟩, .int .i64 2] 40)).heap.size := (Array.getElem?_eq_some_iff.1 hN).1
      have HA := Aside0.mk (HI.out.below (below_alloc (Below.refl wr.heap.size wr) (Obj.cells #[.string ⟨#[97, 32, 49, 50, 98]⟩, .int .i64 2] 40)))
      clear n0 n1 n2 n3 n4 n5 HI hnew
      generalize wr.alloc (Obj.cells #[.string ⟨#[97, 32, 49, 50, 98]⟩, .int .i64 2] 40) = W3 at *
      generalize wr.heap.size = xb at *
      refine (bad_go ⟨#[97, 32, 49, 50, 98]⟩ 2 sane_bad3 (by decide) W3 (GL.below HG.out HA.out.bel)).mono ?_
      rintro e w4 ⟨A, c, rfl, hB⟩
      have m1 : w4.cell? ⟨xb, 1, none⟩ = some (.int .i64 2) := by rw [cell_of_row w4 xb 1 _ _ _ ((hB.block xb hlt).trans hN)]; rfl
      have HA4 := Aside0.mk (HA.out.below hB)
      clear hB hN hlt HA
      go_wp2_with fail
      go_roundg 0
      case measure => omega
      case rel => exact ⟨3, by omega, by omega, rfl, HA4⟩
    · have HB := Aside0.mk HI.out.bel
      clear n0 n1 n2 n3 n4 n5 hnew HI
      go_wp2_with fail
      refine (lex_Kind.calls ⟨#[91, 93]⟩ 5 _ sane_kind1 (GL.below HG.out HB.out)).mono ?_
      rintro e v1 ⟨rfl, hB⟩
      have n0_ := Aside0.mk (HB.out.trans (hB.mono HB.out.size))
      clear hB HB
      have HB := n0_
      clear n0_
      go_wp2_with fail
      refine (lex_Kind.calls ⟨#[61, 61, 62]⟩ 4 _ sane_kind2 (GL.below HG.out HB.out)).mono ?_
      rintro e v2 ⟨rfl, hB⟩
      have n0_ := Aside0.mk (HB.out.trans (hB.mono HB.out.size))
      clear hB HB
      have HB := n0_
      clear n0_
      go_wp2_with fail
      refine (lex_Kind.calls ⟨#[101, 120, 105, 116]⟩ 2 _ sane_kind3 (GL.below HG.out HB.out)).mono ?_
      rintro e v3 ⟨rfl, hB⟩
      have n0_ := Aside0.mk (HB.out.trans (hB.mono HB.out.size))
      clear hB HB
      have HB := n0_
      clear n0_
      go_wp2_with fail
      refine (lex_Kind.calls ⟨#[97, 32, 98]⟩ 0 _ sane_kind4 (GL.below HG.out HB.out)).mono ?_
      rintro e v4 ⟨rfl, hB⟩
      have n0_ := Aside0.mk (HB.out.trans (hB.mono HB.out.size))
      clear hB HB
      have HB := n0_
      clear n0_
      have hE1 : ∀ args w, (callFunc 20 args).run Tryd.prog w = .ok (.enter 20 args) w := enters_of Tryd.func20 (by kernel_rfl) rfl
      have hE2 : ∀ args w, (callFunc 21 args).run Tryd.prog w = .ok (.enter 21 args) w := enters_of Tryd.func21 (by kernel_rfl) rfl
      have hE3 : ∀ args w, (callFunc 22 args).run Tryd.prog w = .ok (.enter 22 args) w := enters_of Tryd.func22 (by kernel_rfl) rfl
      go_wp2_with ((first | (go_at_fn 20; refine (sane_sym _ w _ HB.out).mono ?_) | (go_at_fn 21; refine (sane_sign _ w _ HB.out).mono ?_) | (go_at_fn 22; refine (sane_name _ w _ HB.out).mono ?_)); rintro e w' ⟨rfl, hB⟩; have n0_ := Aside0.mk hB; clear hB HB; have HB := n0_; clear n0_)
      clear hE1 hE2 hE3
      refine (join_go _ w HG.out HB.out).mono ?_
      rintro e u1 ⟨rfl, hB⟩
      have n0_ := Aside0.mk hB
      clear hB HB
      have HB := n0_
      clear n0_
      go_wp2_with fail
      refine (place_go _ w HB.out).mono ?_
      rintro e u2 ⟨rfl, hB⟩
      have n0_ := Aside0.mk hB
      clear hB HB
      have HB := n0_
      clear n0_
      go_wp2_with fail
      refine (strip_go _ w HG.out HB.out).mono ?_
      rintro e u3 ⟨rfl, hB⟩
      have n0_ := Aside0.mk hB
      clear hB HB
      have HB := n0_
      clear n0_
      go_wp2_with fail
      refine (words_go _ w HG.out HB.out).mono ?_
      rintro e u4 ⟨⟨A1, rfl⟩, hB⟩
      have n0_ := Aside0.mk hB
      clear hB HB
      have HB := n0_
      clear n0_
      go_wp2_with fail
      refine (signs_go _ w HG.out HB.out).mono ?_
      rintro e u5 ⟨⟨A2, rfl⟩, hB⟩
      have n0_ := Aside0.mk hB
      clear hB HB
      have HB := n0_
      clear n0_
      go_wp2_with fail
      go_ret
      exact ⟨rfl, HB.out⟩
def madrigallaw01_sane.f : Option Bool := some true
theorem madrigallaw01_sane.calls  (r : Bool) (w : World) (h : madrigallaw01_sane.f  = some r) (hG : GL w) :
    Calls Tryd.prog 7 #[] w fun e w' => e = .returned (.bool r) ∧ Below w.heap.size w w' := by
  injection h with h
  subst h
  exact sane_walk w hG
end Go.Proofs.YtglgppkjgodlkaaDoor.P
