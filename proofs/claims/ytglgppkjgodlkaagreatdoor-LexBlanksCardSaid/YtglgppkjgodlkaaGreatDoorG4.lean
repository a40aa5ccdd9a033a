-- Printed by a program of this session (myprint.py, resplit.py), which drives the kit's printer; Lean checks every row.
import Derived.Test.YtglgppkjgodlkaaGreatDoorP0
import Derived.Test.YtglgppkjgodlkaaGreatDoorP1
import Derived.Test.YtglgppkjgodlkaaGreatDoorG0
import Derived.Test.YtglgppkjgodlkaaGreatDoorG1
import Derived.Test.YtglgppkjgodlkaaGreatDoorG2
import Derived.Test.YtglgppkjgodlkaaGreatDoorG3
namespace Go.Proofs.YtglgppkjgodlkaaGreatDoor.P
open Go.Proofs.YtglgppkjgodlkaaGreatDoorW.PrintLast Go.Proofs.YtglgppkjgodlkaaGreatDoorW.PrintMore Go.Proofs.YtglgppkjgodlkaaGreatDoorW.PrintWords Go.RowKit
attribute [local go_sem] max2_int min2_int max_two min_two max_three min_three max_four min_four   -- for this text's walks alone
set_option linter.unusedVariables false
set_option linter.unusedSimpArgs false
attribute [local go_sem high] eqA38

/-! ### madrigallaw01_sane: function 11 -/
theorem sane_has1 : madrigallaw01_has.f 30 (⟨#[80, 91, 97, 93, 62, 62, 98, 59, 105]⟩ : ByteArray) ([⟨#[80]⟩, ⟨#[91]⟩, ⟨#[97]⟩, ⟨#[93]⟩, ⟨#[62, 62]⟩, ⟨#[98]⟩, ⟨#[59]⟩, ⟨#[105]⟩] : List ByteArray) ([0, 1, 2, 3, 4, 6, 7, 8] : List Int) = some true := by decide +kernel
theorem sane_has2 : madrigallaw01_has.f 30 (⟨#[120, 39, 32, 58, 61, 32, 49, 50, 46, 46, 53, 32, 40, 42, 32, 40, 42, 32, 42, 41, 32, 42, 41, 32, 91, 62]⟩ : ByteArray) ([⟨#[120, 39]⟩, ⟨#[58, 61]⟩, ⟨#[49, 50]⟩, ⟨#[46, 46]⟩, ⟨#[53]⟩, ⟨#[91, 62]⟩] : List ByteArray) ([0, 3, 6, 8, 10, 24] : List Int) = some true := by decide +kernel
theorem sane_bad1 : Lex.tokensL [97, 124, 91, 98, 93, 124, 124, 99] = ([], 6, 10) := by decide +kernel
theorem sane_bad2 : Lex.tokensL [40, 42, 32, 40, 42, 32, 42, 41] = ([], 0, 10) := by decide +kernel
theorem sane_bad3 : Lex.tokensL [97, 32, 49, 50, 98] = ([], 2, 10) := by decide +kernel
theorem sane_kind1 : lex_Kind.f (⟨#[91, 93]⟩ : ByteArray) = some 5 := by decide +kernel
theorem sane_kind2 : lex_Kind.f (⟨#[61, 61, 62]⟩ : ByteArray) = some 4 := by decide +kernel
theorem sane_kind3 : lex_Kind.f (⟨#[101, 120, 105, 116]⟩ : ByteArray) = some 2 := by decide +kernel
theorem sane_kind4 : lex_Kind.f (⟨#[97, 32, 98]⟩ : ByteArray) = some 0 := by decide +kernel
def saneToks : List S38 := [⟨1, 0, ⟨#[97]⟩, 0, 0⟩, ⟨1, 0, ⟨#[98]⟩, 0, 0⟩, ⟨5, 0, ⟨#[91]⟩, 0, 0⟩, ⟨5, 0, ⟨#[93]⟩, 0, 0⟩, ⟨5, 0, ⟨#[40]⟩, 0, 0⟩, ⟨4, 0, ⟨#[42]⟩, 0, 0⟩, ⟨5, 0, ⟨#[61]⟩, 0, 0⟩]
theorem sane_join : lex_Join.f saneToks = some (⟨#[97, 32, 98, 91, 32, 93, 40, 32, 42, 32, 61]⟩, 0) := by decide +kernel
theorem sane_place : lex_Place.f 30 (⟨#[10, 97, 98]⟩ : ByteArray) 2 = some (2, 2, 0) := by decide +kernel
theorem sane_strip : Lex.stripL [97, 40, 42, 98, 42, 41, 99] = ([97, 32, 32, 32, 32, 32, 99], 0) := by decide +kernel
theorem C_cells {α : Type} (enc : α → Value) (h1 : ∀ x, (enc x).oneCell' = true) {w : World} {b e : Nat} {f : Nat × Nat} (l : List α) (h : w.heap[b]? = some (.cells (l.map enc).toArray e f)) (hl : l.length ≤ 9223372036854775807) : (Kd.scalar enc h1).C w (some ⟨b, 0, none⟩) l.length l := by
 refine ⟨rfl, hl, fun _ => ⟨_, rfl, fun j p hj => ⟨[enc p], rfl, rfl, fun i u hu => ?_⟩⟩⟩
 cases i with
 | succ i => simp at hu
 | zero =>
  simp at hu
  subst hu
  have ha : (⟨b, 0, none⟩ : Addr).add (j * 1 + 0) = ⟨b, j, none⟩ := by
   unfold Addr.add
   split
   ·rename_i h0; rw [show j = 0 by omega]
   ·simp
  show w.cell? ((⟨b, 0, none⟩ : Addr).add (j * 1 + 0)) = _
  rw [ha, cell_of_row w b j _ _ _ h]
  simp [hj]
theorem two_new (W : World) (o1 o2 : Obj) : ((W.alloc o1).alloc o2).heap[W.heap.size]? = some o1 ∧ ((W.alloc o1).alloc o2).heap[W.heap.size + 1]? = some o2 := by
 have s1 : (W.alloc o1).heap.size = W.heap.size + 1 := Array.size_push _
 have b2 := Array.getElem?_push_size (xs := (W.alloc o1).heap) (x := o2)
 rw [s1] at b2
 exact ⟨((below_alloc (w := W.alloc o1) (Below.refl _ _) o2).block W.heap.size (by rw [s1]; omega)).trans Array.getElem?_push_size, b2⟩
theorem has_go (t : ByteArray) (ws : List ByteArray) (at_ : List Int) (h : madrigallaw01_has.f 30 t ws at_ = some true) (h1 : ws.length ≤ 1000) (h2 : at_.length ≤ 1000) (w W : World) (hG : GL w) (hB : Below w.heap.size w W) :
  Calls Tryz.prog 39 #[.string t, .slice (some ⟨W.heap.size, 0, none⟩) ws.length ws.length, .slice (some ⟨W.heap.size + 1, 0, none⟩) at_.length at_.length] ((W.alloc (Obj.cells (ws.map Value.string).toArray 9)).alloc (Obj.cells (at_.map (Value.int .i64)).toArray 3)) fun e w' => e = .returned (.bool true) ∧ Below w.heap.size w w' := by
 have hn := two_new W (Obj.cells (ws.map Value.string).toArray 9) (Obj.cells (at_.map (Value.int .i64)).toArray 3)
 have hB2 : Below w.heap.size w ((W.alloc (Obj.cells (ws.map Value.string).toArray 9)).alloc (Obj.cells (at_.map (Value.int .i64)).toArray 3)) := below_alloc (below_alloc hB _) _
 refine (madrigallaw01_has.calls 30 t _ _ ws _ _ at_ true _ (C_cells _ _ ws hn.1 (by omega)) (Nat.le_refl _) (C_cells _ _ at_ hn.2 (by omega)) (Nat.le_refl _) h (GL.below hG hB2)).mono ?_
 rintro e w' ⟨rfl, hb⟩
 exact ⟨rfl, hB2.trans (hb.mono hB2.size)⟩
theorem sane_h1 (w W : World) (hG : GL w) (hB : Below w.heap.size w W) :
  Calls Tryz.prog 39 #[.string ⟨#[80, 91, 97, 93, 62, 62, 98, 59, 105]⟩, .slice (some ⟨W.heap.size, 0, none⟩) 8 8, .slice (some ⟨W.heap.size + 1, 0, none⟩) 8 8] ((W.alloc (Obj.cells #[.string ⟨#[80]⟩, .string ⟨#[91]⟩, .string ⟨#[97]⟩, .string ⟨#[93]⟩, .string ⟨#[62, 62]⟩, .string ⟨#[98]⟩, .string ⟨#[59]⟩, .string ⟨#[105]⟩] 9)).alloc (Obj.cells #[.int .i64 0, .int .i64 1, .int .i64 2, .int .i64 3, .int .i64 4, .int .i64 6, .int .i64 7, .int .i64 8] 3)) fun e w' => e = .returned (.bool true) ∧ Below w.heap.size w w' :=
 has_go _ ([⟨#[80]⟩, ⟨#[91]⟩, ⟨#[97]⟩, ⟨#[93]⟩, ⟨#[62, 62]⟩, ⟨#[98]⟩, ⟨#[59]⟩, ⟨#[105]⟩] : List ByteArray) ([0, 1, 2, 3, 4, 6, 7, 8] : List Int) sane_has1 (by decide) (by decide) w W hG hB
theorem sane_h2 (w W : World) (hG : GL w) (hB : Below w.heap.size w W) :
  Calls Tryz.prog 39 #[.string ⟨#[120, 39, 32, 58, 61, 32, 49, 50, 46, 46, 53, 32, 40, 42, 32, 40, 42, 32, 42, 41, 32, 42, 41, 32, 91, 62]⟩, .slice (some ⟨W.heap.size, 0, none⟩) 6 6, .slice (some ⟨W.heap.size + 1, 0, none⟩) 6 6] ((W.alloc (Obj.cells #[.string ⟨#[120, 39]⟩, .string ⟨#[58, 61]⟩, .string ⟨#[49, 50]⟩, .string ⟨#[46, 46]⟩, .string ⟨#[53]⟩, .string ⟨#[91, 62]⟩] 9)).alloc (Obj.cells #[.int .i64 0, .int .i64 3, .int .i64 6, .int .i64 8, .int .i64 10, .int .i64 24] 3)) fun e w' => e = .returned (.bool true) ∧ Below w.heap.size w w' :=
 has_go _ ([⟨#[120, 39]⟩, ⟨#[58, 61]⟩, ⟨#[49, 50]⟩, ⟨#[46, 46]⟩, ⟨#[53]⟩, ⟨#[91, 62]⟩] : List ByteArray) ([0, 3, 6, 8, 10, 24] : List Int) sane_has2 (by decide) (by decide) w W hG hB
set_option maxHeartbeats 8000000 in
set_option maxRecDepth 100000 in
theorem sane_sym (s : ByteArray) (w0 w : World) (hB : Below w0.heap.size w0 w) : Calls Tryz.prog 40 #[.string s] w fun e w' => e = .returned (.agg #[.int .i64 4, .int .i64 0, .string s, .int .i64 0, .int .i64 0]) ∧ Below w0.heap.size w0 w' := by
 have hl := fun o : Obj => (Array.getElem?_push_size (xs := w.heap) (x := o))
 go_enter Tryz.func40, Tryz.ntmps40
 go_wp2_with fail
 simp only [bodyPost, results, Tryz.results40]
 go_simp
 exact below_alloc hB _
set_option maxHeartbeats 8000000 in
set_option maxRecDepth 100000 in
theorem sane_sign (s : ByteArray) (w0 w : World) (hB : Below w0.heap.size w0 w) : Calls Tryz.prog 41 #[.string s] w fun e w' => e = .returned (.agg #[.int .i64 5, .int .i64 0, .string s, .int .i64 0, .int .i64 0]) ∧ Below w0.heap.size w0 w' := by
 have hl := fun o : Obj => (Array.getElem?_push_size (xs := w.heap) (x := o))
 go_enter Tryz.func41, Tryz.ntmps41
 go_wp2_with fail
 simp only [bodyPost, results, Tryz.results41]
 go_simp
 exact below_alloc hB _
set_option maxHeartbeats 8000000 in
set_option maxRecDepth 100000 in
theorem sane_name (s : ByteArray) (w0 w : World) (hB : Below w0.heap.size w0 w) : Calls Tryz.prog 42 #[.string s] w fun e w' => e = .returned (.agg #[.int .i64 1, .int .i64 0, .string s, .int .i64 0, .int .i64 0]) ∧ Below w0.heap.size w0 w' := by
 have hl := fun o : Obj => (Array.getElem?_push_size (xs := w.heap) (x := o))
 go_enter Tryz.func42, Tryz.ntmps42
 go_wp2_with fail
 simp only [bodyPost, results, Tryz.results42]
 go_simp
 exact below_alloc hB _
def saneTab : Array Value := #[.string ⟨#[97, 124, 91, 98, 93, 124, 124, 99]⟩, .int .i64 6, .string ⟨#[40, 42, 32, 40, 42, 32, 42, 41]⟩, .int .i64 0, .string ⟨#[97, 32, 49, 50, 98]⟩, .int .i64 2]
structure SaneAt (w : World) (tb : Nat) (W : World) : Prop where
 bel : Below w.heap.size w W
 tab : W.heap[tb]? = some (.cells saneTab 59 (0, 0))
theorem SaneAt.below {w : World} {tb : Nat} {W W2 : World} (h : SaneAt w tb W) (hb : Below W.heap.size W W2) : SaneAt w tb W2 :=
 ⟨h.bel.trans (hb.mono h.bel.size), (hb.block tb (Array.getElem?_eq_some_iff.1 h.tab).1).trans h.tab⟩
theorem SaneAt.cells {w : World} {tb : Nat} {W : World} (h : SaneAt w tb W) (j : Nat) : W.cell? ⟨tb, j, none⟩ = saneTab[j]? := cell_of_row W tb j _ _ _ h.tab
theorem bad_go (t : ByteArray) (p : Nat) (h : Lex.tokensL t.data.toList = ([], p, 10)) (hs : t.size ≤ 140737488351232) (W : World) (hG : GL W) :
  Calls Tryz.prog 13 #[.string t] W fun e w' => ∃ A c, e = .returned (.tuple #[.slice A 0 c, .int .i64 (p : Int), .int .i64 10]) ∧ Below W.heap.size W w' := by
 refine (tokens_any t W hs hG).mono ?_
 rintro e w' ⟨v, rfl, ho, hB⟩
 rw [h] at ho ⊢
 obtain ⟨A, c, rfl⟩ := own_form ho
 exact ⟨A, c, rfl, hB⟩
def tkCells (x : S38) : List Value := [.int .i64 x.f0, .int .i64 x.f1, .string x.f2, .int .i64 x.f3, .int .i64 x.f4]
theorem join_go (W w : World) (hG : GL w) (hB : Below w.heap.size w W) :
  Calls Tryz.prog 24 #[.slice (some ⟨W.heap.size, 0, none⟩) 7 7] (W.alloc (Obj.cells #[.int .i64 1, .int .i64 0, .string ⟨#[97]⟩, .int .i64 0, .int .i64 0, .int .i64 1, .int .i64 0, .string ⟨#[98]⟩, .int .i64 0, .int .i64 0, .int .i64 5, .int .i64 0, .string ⟨#[91]⟩, .int .i64 0, .int .i64 0, .int .i64 5, .int .i64 0, .string ⟨#[93]⟩, .int .i64 0, .int .i64 0, .int .i64 5, .int .i64 0, .string ⟨#[40]⟩, .int .i64 0, .int .i64 0, .int .i64 4, .int .i64 0, .string ⟨#[42]⟩, .int .i64 0, .int .i64 0, .int .i64 5, .int .i64 0, .string ⟨#[61]⟩, .int .i64 0, .int .i64 0] 38)) fun e w' => e = .returned (.tuple #[.string ⟨#[97, 32, 98, 91, 32, 93, 40, 32, 42, 32, 61]⟩, .int .i64 0]) ∧ Below w.heap.size w w' := by
 have ho := World.ownsRow_lit (base := 0) (e := 38) (size := 5) W #[.int .i64 1, .int .i64 0, .string ⟨#[97]⟩, .int .i64 0, .int .i64 0, .int .i64 1, .int .i64 0, .string ⟨#[98]⟩, .int .i64 0, .int .i64 0, .int .i64 5, .int .i64 0, .string ⟨#[91]⟩, .int .i64 0, .int .i64 0, .int .i64 5, .int .i64 0, .string ⟨#[93]⟩, .int .i64 0, .int .i64 0, .int .i64 5, .int .i64 0, .string ⟨#[40]⟩, .int .i64 0, .int .i64 0, .int .i64 4, .int .i64 0, .string ⟨#[42]⟩, .int .i64 0, .int .i64 0, .int .i64 5, .int .i64 0, .string ⟨#[61]⟩, .int .i64 0, .int .i64 0] 7 (Nat.zero_le _) (by decide) rfl
 have hR : Kd.R k38 38 (W.alloc (Obj.cells #[.int .i64 1, .int .i64 0, .string ⟨#[97]⟩, .int .i64 0, .int .i64 0, .int .i64 1, .int .i64 0, .string ⟨#[98]⟩, .int .i64 0, .int .i64 0, .int .i64 5, .int .i64 0, .string ⟨#[91]⟩, .int .i64 0, .int .i64 0, .int .i64 5, .int .i64 0, .string ⟨#[93]⟩, .int .i64 0, .int .i64 0, .int .i64 5, .int .i64 0, .string ⟨#[40]⟩, .int .i64 0, .int .i64 0, .int .i64 4, .int .i64 0, .string ⟨#[42]⟩, .int .i64 0, .int .i64 0, .int .i64 5, .int .i64 0, .string ⟨#[61]⟩, .int .i64 0, .int .i64 0] 38)) 0 (fun _ => True) (.slice (some ⟨W.heap.size, 0, none⟩) 7 7) (saneToks.map id) :=
  ⟨fun _ _ => trivial, saneToks.flatMap tkCells, ho, reps_flat id tkCells (fun _ => rfl) (fun x => k38_mkM _ _ _ x) saneToks⟩
 have hB2 := below_alloc hB (Obj.cells #[.int .i64 1, .int .i64 0, .string ⟨#[97]⟩, .int .i64 0, .int .i64 0, .int .i64 1, .int .i64 0, .string ⟨#[98]⟩, .int .i64 0, .int .i64 0, .int .i64 5, .int .i64 0, .string ⟨#[91]⟩, .int .i64 0, .int .i64 0, .int .i64 5, .int .i64 0, .string ⟨#[93]⟩, .int .i64 0, .int .i64 0, .int .i64 5, .int .i64 0, .string ⟨#[40]⟩, .int .i64 0, .int .i64 0, .int .i64 4, .int .i64 0, .string ⟨#[42]⟩, .int .i64 0, .int .i64 0, .int .i64 5, .int .i64 0, .string ⟨#[61]⟩, .int .i64 0, .int .i64 0] 38)
 refine (lex_Join.calls _ 7 saneToks _ _ _ (Kd.R_reads' hR).2.2 (Nat.le_refl _) sane_join (GL.below hG hB2)).mono ?_
 rintro e w' ⟨rfl, hb⟩
 exact ⟨rfl, hB2.trans (hb.mono hB2.size)⟩
theorem strip_go (W w : World) (hG : GL w) (hB : Below w.heap.size w W) :
  Calls Tryz.prog 33 #[.string ⟨#[97, 40, 42, 98, 42, 41, 99]⟩] W fun e w' => e = .returned (.tuple #[.string ⟨#[97, 32, 32, 32, 32, 32, 99]⟩, .int .i64 0]) ∧ Below w.heap.size w w' := by
 refine (strip_any ⟨#[97, 40, 42, 98, 42, 41, 99]⟩ W (by decide) (GL.below hG hB)).mono ?_
 rintro e w' ⟨rfl, hb⟩
 refine ⟨?_, hB.trans (hb.mono hB.size)⟩
 rw [show Lex.stripL (⟨#[97, 40, 42, 98, 42, 41, 99]⟩ : ByteArray).data.toList = _ from sane_strip]
 rfl
theorem place_go (W w : World) (hB : Below w.heap.size w W) :
  Calls Tryz.prog 31 #[.string ⟨#[10, 97, 98]⟩, .int .i64 2] W fun e w' => e = .returned (.tuple #[.int .i64 2, .int .i64 2, .int .i64 0]) ∧ Below w.heap.size w w' := by
 refine (lex_Place.calls 30 ⟨#[10, 97, 98]⟩ 2 2 2 0 W sane_place).mono ?_
 rintro e w' ⟨rfl, hb⟩
 exact ⟨rfl, hB.trans (hb.below.mono hB.size)⟩
theorem words_go (W w : World) (hG : GL w) (hB : Below w.heap.size w W) :
  Calls Tryz.prog 19 #[] W fun e w' => (∃ A, e = .returned (.slice A 37 37)) ∧ Below w.heap.size w w' := by
 refine (words_any W (GL.below hG hB)).mono ?_
 rintro e w' ⟨rfl, rfl⟩
 exact ⟨⟨_, rfl⟩, below_alloc hB _⟩
theorem signs_go (W w : World) (hG : GL w) (hB : Below w.heap.size w W) :
  Calls Tryz.prog 21 #[] W fun e w' => (∃ A, e = .returned (.slice A 24 24)) ∧ Below w.heap.size w w' := by
 refine (signs_any W (GL.below hG hB)).mono ?_
 rintro e w' ⟨rfl, rfl⟩
 exact ⟨⟨_, rfl⟩, below_alloc hB _⟩
set_option maxHeartbeats 8000000 in
set_option maxRecDepth 100000 in
theorem sane_walk (w : World) (hG : GL w) : Calls Tryz.prog 11 #[] w fun e w' => e = .returned (.bool true) ∧ Below w.heap.size w w' := by
 have HG := Aside0.mk hG
 clear hG
 go_enter Tryz.func11, Tryz.ntmps11
 go_wp2_with fail
 refine (sane_h1 w w HG.out (Below.refl _ _)).mono ?_
 rintro e w1 ⟨rfl, hB⟩
 have HB1 := Aside0.mk hB
 clear hB
 go_wp2_with fail
 refine (sane_h2 w w1 HG.out HB1.out).mono ?_
 rintro e w2 ⟨rfl, hB⟩
 have HB2 := Aside0.mk hB
 clear hB HB1
 go_wp2_with fail
 have hst : SaneAt w w2.heap.size (w2.alloc (Obj.cells saneTab 59)) := ⟨below_alloc HB2.out _, Array.getElem?_push_size⟩
 change Code.wp _ _ _ _ (w2.alloc (Obj.cells saneTab 59))
 generalize w2.alloc (Obj.cells saneTab 59) = W2 at hst ⊢
 generalize w2.heap.size = tb at hst ⊢
 clear HB2
 have Hst := Aside0.mk hst
 clear hst
 go_loopg [28] 3 (fun k t wr => ∃ j : Nat, j ≤ 3 ∧ 3 - j ≤ k ∧ t = .int .i64 (j : Int) ∧ Aside0 (SaneAt w tb wr))
 case atStart => exact ⟨0, by omega, by omega, rfl, Hst⟩
 case round =>
  obtain ⟨j, hj, hk, rfl, HI⟩ := hrel
  have hc := HI.out.cells
  have n0 : wr.cell? ⟨tb, 0, none⟩ = some (.string ⟨#[97, 124, 91, 98, 93, 124, 124, 99]⟩) := hc 0
  have n1 : wr.cell? ⟨tb, 1, none⟩ = some (.int .i64 6) := hc 1
  have n2 : wr.cell? ⟨tb, 2, none⟩ = some (.string ⟨#[40, 42, 32, 40, 42, 32, 42, 41]⟩) := hc 2
  have n3 : wr.cell? ⟨tb, 3, none⟩ = some (.int .i64 0) := hc 3
  have n4 : wr.cell? ⟨tb, 4, none⟩ = some (.string ⟨#[97, 32, 49, 50, 98]⟩) := hc 4
  have n5 : wr.cell? ⟨tb, 5, none⟩ = some (.int .i64 2) := hc 5
  clear hc
  have hnew := fun o : Obj => (Array.getElem?_push_size (xs := wr.heap) (x := o))
  rcases (by omega : j = 0 ∨ j = 1 ∨ j = 2 ∨ j = 3) with rfl | rfl | rfl | rfl
  ·go_wp2_with fail
   have hN : (wr.alloc (Obj.cells #[.string ⟨#[97, 124, 91, 98, 93, 124, 124, 99]⟩, .int .i64 6] 59)).heap[wr.heap.size]? = _ := hnew _
   have hlt : wr.heap.size < (wr.alloc (Obj.cells #[.string ⟨#[97, 124, 91, 98, 93, 124, 124, 99]⟩, .int .i64 6] 59)).heap.size := (Array.getElem?_eq_some_iff.1 hN).1
   have HA := Aside0.mk (HI.out.below (below_alloc (Below.refl wr.heap.size wr) (Obj.cells #[.string ⟨#[97, 124, 91, 98, 93, 124, 124, 99]⟩, .int .i64 6] 59)))
   clear n0 n1 n2 n3 n4 n5 HI hnew
   generalize wr.alloc (Obj.cells #[.string ⟨#[97, 124, 91, 98, 93, 124, 124, 99]⟩, .int .i64 6] 59) = W3 at *
   generalize wr.heap.size = xb at *
   refine (bad_go ⟨#[97, 124, 91, 98, 93, 124, 124, 99]⟩ 6 sane_bad1 (by decide) W3 (GL.below HG.out HA.out.bel)).mono ?_
   rintro e w4 ⟨A, c, rfl, hB⟩
   have m1 : w4.cell? ⟨xb, 1, none⟩ = some (.int .i64 6) := by rw [cell_of_row w4 xb 1 _ _ _ ((hB.block xb hlt).trans hN)]; rfl
   have HA4 := Aside0.mk (HA.out.below hB)
   clear hB hN hlt HA
   go_wp2_with fail
   go_roundg 2
   case measure => omega
   case rel => exact ⟨1, by omega, by omega, rfl, HA4⟩
  ·go_wp2_with fail
   have hN : (wr.alloc (Obj.cells #[.string ⟨#[40, 42, 32, 40, 42, 32, 42, 41]⟩, .int .i64 0] 59)).heap[wr.heap.size]? = _ := hnew _
   have hlt : wr.heap.size < (wr.alloc (Obj.cells #[.string ⟨#[40, 42, 32, 40, 42, 32, 42, 41]⟩, .int .i64 0] 59)).heap.size := (Array.getElem?_eq_some_iff.1 hN).1
   have HA := Aside0.mk (HI.out.below (below_alloc (Below.refl wr.heap.size wr) (Obj.cells #[.string ⟨#[40, 42, 32, 40, 42, 32, 42, 41]⟩, .int .i64 0] 59)))
   clear n0 n1 n2 n3 n4 n5 HI hnew
   generalize wr.alloc (Obj.cells #[.string ⟨#[40, 42, 32, 40, 42, 32, 42, 41]⟩, .int .i64 0] 59) = W3 at *
   generalize wr.heap.size = xb at *
   refine (bad_go ⟨#[40, 42, 32, 40, 42, 32, 42, 41]⟩ 0 sane_bad2 (by decide) W3 (GL.below HG.out HA.out.bel)).mono ?_
   rintro e w4 ⟨A, c, rfl, hB⟩
   have m1 : w4.cell? ⟨xb, 1, none⟩ = some (.int .i64 0) := by rw [cell_of_row w4 xb 1 _ _ _ ((hB.block xb hlt).trans hN)]; rfl
   have HA4 := Aside0.mk (HA.out.below hB)
   clear hB hN hlt HA
   go_wp2_with fail
   go_roundg 1
   case measure => omega
   case rel => exact ⟨2, by omega, by omega, rfl, HA4⟩
  ·go_wp2_with fail
   have hN : (wr.alloc (Obj.cells #[.string ⟨#[97, 32, 49, 50, 98]⟩, .int .i64 2] 59)).heap[wr.heap.size]? = _ := hnew _
   have hlt : wr.heap.size < (wr.alloc (Obj.cells #[.string ⟨#[97, 32, 49, 50, 98]⟩, .int .i64 2] 59)).heap.size := (Array.getElem?_eq_some_iff.1 hN).1
   have HA := Aside0.mk (HI.out.below (below_alloc (Below.refl wr.heap.size wr) (Obj.cells #[.string ⟨#[97, 32, 49, 50, 98]⟩, .int .i64 2] 59)))
   clear n0 n1 n2 n3 n4 n5 HI hnew
   generalize wr.alloc (Obj.cells #[.string ⟨#[97, 32, 49, 50, 98]⟩, .int .i64 2] 59) = W3 at *
   generalize wr.heap.size = xb at *
   refine (bad_go ⟨#[97, 32, 49, 50, 98]⟩ 2 sane_bad3 (by decide) W3 (GL.below HG.out HA.out.bel)).mono ?_
   rintro e w4 ⟨A, c, rfl, hB⟩
   have m1 : w4.cell? ⟨xb, 1, none⟩ = some (.int .i64 2) := by rw [cell_of_row w4 xb 1 _ _ _ ((hB.block xb hlt).trans hN)]; rfl
   have HA4 := Aside0.mk (HA.out.below hB)
   clear hB hN hlt HA
   go_wp2_with fail
   go_roundg 0
   case measure => omega
   case rel => exact ⟨3, by omega, by omega, rfl, HA4⟩
  ·have HB := Aside0.mk HI.out.bel
   clear n0 n1 n2 n3 n4 n5 hnew HI
   go_wp2_with fail
   refine (lex_Kind.calls ⟨#[91, 93]⟩ 5 _ sane_kind1 (GL.below HG.out HB.out)).mono ?_
   rintro e v1 ⟨rfl, hB⟩
   have n0_ := Aside0.mk (HB.out.trans (hB.mono HB.out.size))
   clear hB HB
   have HB := n0_
   clear n0_
   go_wp2_with fail
   refine (lex_Kind.calls ⟨#[61, 61, 62]⟩ 4 _ sane_kind2 (GL.below HG.out HB.out)).mono ?_
   rintro e v2 ⟨rfl, hB⟩
   have n0_ := Aside0.mk (HB.out.trans (hB.mono HB.out.size))
   clear hB HB
   have HB := n0_
   clear n0_
   go_wp2_with fail
   refine (lex_Kind.calls ⟨#[101, 120, 105, 116]⟩ 2 _ sane_kind3 (GL.below HG.out HB.out)).mono ?_
   rintro e v3 ⟨rfl, hB⟩
   have n0_ := Aside0.mk (HB.out.trans (hB.mono HB.out.size))
   clear hB HB
   have HB := n0_
   clear n0_
   go_wp2_with fail
   refine (lex_Kind.calls ⟨#[97, 32, 98]⟩ 0 _ sane_kind4 (GL.below HG.out HB.out)).mono ?_
   rintro e v4 ⟨rfl, hB⟩
   have n0_ := Aside0.mk (HB.out.trans (hB.mono HB.out.size))
   clear hB HB
   have HB := n0_
   clear n0_
   have hE1 : ∀ args w, (callFunc 40 args).run Tryz.prog w = .ok (.enter 40 args) w := enters_of Tryz.func40 (by kernel_rfl) rfl
   have hE2 : ∀ args w, (callFunc 41 args).run Tryz.prog w = .ok (.enter 41 args) w := enters_of Tryz.func41 (by kernel_rfl) rfl
   have hE3 : ∀ args w, (callFunc 42 args).run Tryz.prog w = .ok (.enter 42 args) w := enters_of Tryz.func42 (by kernel_rfl) rfl
   go_wp2_with ((first | (go_at_fn 40; refine (sane_sym _ w _ HB.out).mono ?_) | (go_at_fn 41; refine (sane_sign _ w _ HB.out).mono ?_) | (go_at_fn 42; refine (sane_name _ w _ HB.out).mono ?_)); rintro e w' ⟨rfl, hB⟩; have n0_ := Aside0.mk hB; clear hB HB; have HB := n0_; clear n0_)
   clear hE1 hE2 hE3
   refine (join_go _ w HG.out HB.out).mono ?_
   rintro e u1 ⟨rfl, hB⟩
   have n0_ := Aside0.mk hB
   clear hB HB
   have HB := n0_
   clear n0_
   go_wp2_with fail
   refine (place_go _ w HB.out).mono ?_
   rintro e u2 ⟨rfl, hB⟩
   have n0_ := Aside0.mk hB
   clear hB HB
   have HB := n0_
   clear n0_
   go_wp2_with fail
   refine (strip_go _ w HG.out HB.out).mono ?_
   rintro e u3 ⟨rfl, hB⟩
   have n0_ := Aside0.mk hB
   clear hB HB
   have HB := n0_
   clear n0_
   go_wp2_with fail
   refine (words_go _ w HG.out HB.out).mono ?_
   rintro e u4 ⟨⟨A1, rfl⟩, hB⟩
   have n0_ := Aside0.mk hB
   clear hB HB
   have HB := n0_
   clear n0_
   go_wp2_with fail
   refine (signs_go _ w HG.out HB.out).mono ?_
   rintro e u5 ⟨⟨A2, rfl⟩, hB⟩
   have n0_ := Aside0.mk hB
   clear hB HB
   have HB := n0_
   clear n0_
   go_wp2_with fail
   go_ret
   exact ⟨rfl, HB.out⟩
def madrigallaw01_sane.f : Option Bool := some true
theorem madrigallaw01_sane.calls  (r : Bool) (w : World) (h : madrigallaw01_sane.f  = some r) (hG : GL w) :
  Calls Tryz.prog 11 #[] w fun e w' => e = .returned (.bool r) ∧ Below w.heap.size w w' := by
 injection h with h
 subst h
 exact sane_walk w hG
end Go.Proofs.YtglgppkjgodlkaaGreatDoor.P
