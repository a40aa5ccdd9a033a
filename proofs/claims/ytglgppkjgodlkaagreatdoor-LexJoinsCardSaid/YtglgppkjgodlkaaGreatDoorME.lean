/- Parts LO, LO2, LQ of the walks of package lex, in one text. -/
import Derived.Test.YtglgppkjgodlkaaGreatDoorMD
import Derived.Lib.ConvBytes
import Derived.Laws.IdiomStrings
import Derived.Laws.BytesString
import Derived.Shelf.Strings.BuilderF
import Derived.Shelf.Strings.BuilderK
/- The walk of lex.Strip: the bytes of comments, but line feeds, turn into blanks. -/
namespace Go.Proofs.YtglgppkjgodlkaaGreatDoor
open Go.RowKit
set_option linter.unusedVariables false
set_option linter.unusedSimpArgs false

/-- one byte of a comment -/
def Lex.blankAt (l : Lex.Bytes) (i : Nat) : Lex.Bytes := if l.getD i 10 = 10 then l else l.set i 32
/-- n bytes from i on -/
def Lex.blanked : Nat → Lex.Bytes → Nat → Lex.Bytes
  | 0, l, _ => l
  | n + 1, l, i => Lex.blanked n (Lex.blankAt l i) (i + 1)
/-- all comments -/
def Lex.blankAll (l : Lex.Bytes) (cs : List (Nat × Nat)) : Lex.Bytes := cs.foldl (fun l c => Lex.blanked (c.2 - c.1) l c.1) l
/-- what Strip returns -/
def Lex.stripL (l : Lex.Bytes) : Lex.Bytes × Nat :=
  if l.length > 100000 then ([], 2) else
  match Lex.cutL l with
  | .err p => ([], 10)
  | .done ts cs => if ts.length > 20000 then ([], 2) else (Lex.blankAll l cs, 0)
theorem Lex.blankAt_len (l : Lex.Bytes) (i : Nat) : (Lex.blankAt l i).length = l.length := by
  unfold Lex.blankAt; split <;> simp
theorem Lex.blanked_len : ∀ (n : Nat) (l : Lex.Bytes) (i : Nat), (Lex.blanked n l i).length = l.length
  | 0, _, _ => rfl
  | n + 1, l, i => by rw [Lex.blanked, Lex.blanked_len n, Lex.blankAt_len]
theorem Lex.blankAll_len (cs : List (Nat × Nat)) : ∀ l : Lex.Bytes, (Lex.blankAll l cs).length = l.length := by
  induction cs with
  | nil => exact fun _ => rfl
  | cons c cs ih => exact fun l => (ih _).trans (Lex.blanked_len _ _ _)
/-- the comments lie within the text -/
def Lex.ComIn (n : Nat) (cs : List (Nat × Nat)) : Prop := ∀ c ∈ cs, c.1 ≤ c.2 ∧ c.2 ≤ n
theorem Lex.scan_coms : ∀ (n : Nat) (l : Lex.Bytes) (p m : Nat) (ts : List Lex.Tok) (cs : List (Nat × Nat)) (ts' : List Lex.Tok) (cs' : List (Nat × Nat)), p + l.length ≤ m → Lex.ComIn m cs → Lex.scan n l p ts cs = .done ts' cs' → Lex.ComIn m cs'
  | 0, l, p, m, ts, cs, ts', cs', hp, hc, h => by
    unfold Lex.scan at h
    split at h
    · injection h with _ h; exact h ▸ hc
    · cases h
  | n + 1, l, p, m, ts, cs, ts', cs', hp, hc, h => by
    unfold Lex.scan at h
    split at h
    · injection h with _ h; exact h ▸ hc
    · rename_i hne
      have h1 : 1 ≤ l.length := by cases l <;> simp at hne ⊢
      split at h
      · exact Lex.scan_coms n _ _ m _ _ _ _ (by rw [List.length_drop]; omega) hc h
      · rename_i k hk
        have hb := Lex.step_comm hk
        refine Lex.scan_coms n _ _ m _ _ _ _ (by rw [List.length_drop]; omega) ?_ h
        intro c hcm
        rcases List.mem_append.1 hcm with h2 | h2
        · exact hc c h2
        · simp at h2; subst h2; exact ⟨Nat.le_add_right _ _, by show p + k ≤ m; omega⟩
      · rename_i kd b2 s2 k hk
        have hb := Lex.step_tok hk
        exact Lex.scan_coms n _ _ m _ _ _ _ (by rw [List.length_drop]; omega) hc h
      · cases h
theorem Lex.cut_coms {l : Lex.Bytes} {ts : List Lex.Tok} {cs : List (Nat × Nat)} (h : Lex.cutL l = .done ts cs) : Lex.ComIn l.length cs :=
  Lex.scan_coms _ _ _ _ _ _ _ _ (by omega) (fun c hc => by cases hc) h

/-! ### the row of bytes -/
def bufCells (l : Lex.Bytes) (k : Nat) : Array Value := (l.map fun x => Value.int .u8 (x.toNat : Int)).toArray ++ Array.replicate k (Value.int .u8 0)
def BufAt (w : World) (b : Nat) (l : Lex.Bytes) (k : Nat) : Prop := w.heap[b]? = some (.cells (bufCells l k) 5 (l.length + k, l.length + k + 1))
theorem BufAt.lt {w : World} {b k : Nat} {l : Lex.Bytes} (h : BufAt w b l k) : b < w.heap.size := by
  unfold BufAt at h
  exact (Array.getElem?_eq_some_iff.1 h).1
theorem BufAt.cell {w : World} {b k : Nat} {l : Lex.Bytes} (h : BufAt w b l k) (i : Nat) (hi : i < l.length) : w.cell? ⟨b, i, none⟩ = some (.int .u8 (l[i].toNat : Int)) := by
  rw [cell_of_row w b i _ _ _ h]
  unfold bufCells
  rw [Array.getElem?_append_left (by simpa using hi)]
  simp [List.getElem?_eq_getElem hi]
theorem BufAt.fr {w : World} {b k : Nat} {l : Lex.Bytes} (h : BufAt w b l k) (i : Nat) (hi : i < l.length) : w.frozen? ⟨b, i, none⟩ = false := by
  unfold BufAt at h
  simp [World.frozen?, h]
  omega
theorem BufAt.set {w : World} {b k : Nat} {l : Lex.Bytes} (h : BufAt w b l k) (i : Nat) (hi : i < l.length) (x : UInt8) : BufAt (w.setCell ⟨b, i, none⟩ (.int .u8 (x.toNat : Int))) b (l.set i x) k := by
  unfold BufAt at *
  simp [World.setCell, h, Array.getElem?_modify]
  unfold bufCells
  rw [Array.setIfInBounds_append_left (by simpa using hi)]
  simp [List.map_set]
theorem BufAt.move {w W : World} {b k : Nat} {l : Lex.Bytes} (h : BufAt w b l k) (hb : W.heap[b]? = w.heap[b]?) : BufAt W b l k := by
  unfold BufAt at *
  rw [hb, h]
theorem bytes_buf (w : World) (s : ByteArray) : ∃ k, BufAt (Lib.bytesWorld w 5 s) w.heap.size s.data.toList k := by
  refine ⟨grownCap w s.size 0 5 - s.size, ?_⟩
  unfold BufAt
  rw [Lib.bytesWorld_at_new]
  have e1 : Lib.bytesCells w 5 s = bufCells s.data.toList (grownCap w s.size 0 5 - s.size) := by
    unfold Lib.bytesCells bufCells
    congr 1
    apply Array.ext'
    simp
  have e2 : (Lib.bytesCells w 5 s).size = s.data.toList.length + (grownCap w s.size 0 5 - s.size) := by
    rw [e1]; unfold bufCells; simp
  rw [e2, e1]
theorem bytes_below (w : World) (s : ByteArray) : Below w.heap.size w (Lib.bytesWorld w 5 s) :=
  ⟨rfl, rfl, rfl, by rw [Lib.bytesWorld_size]; omega, fun k hk => Lib.bytesWorld_at_old _ _ _ k hk⟩

/-- Two new variables in memory, each 0: the error first. -/
structure TwoBoxes2 (w W : World) : Prop where
  bel : Below w.heap.size w W
  sz : W.heap.size = w.heap.size + 1 + 1
  h1 : W.heap[w.heap.size]? = some (.cells #[.int .i64 0] 25 (0, 0))
  h2 : W.heap[w.heap.size + 1]? = some (.cells #[.int .i64 0] 3 (0, 0))
theorem two_boxes2 (w : World) : TwoBoxes2 w ((w.alloc (Obj.cells #[Value.int IntKind.i64 0] 25)).alloc (Obj.cells #[Value.int IntKind.i64 0] 3)) := by
  have s1 : ∀ (v : World) (o : Obj), (v.alloc o).heap.size = v.heap.size + 1 := fun v o => Array.size_push _
  have b2 := Array.getElem?_push_size (xs := (w.alloc (Obj.cells #[Value.int IntKind.i64 0] 25)).heap) (x := (Obj.cells #[Value.int IntKind.i64 0] 3 : Obj))
  rw [s1] at b2
  have b1 := Array.getElem?_push_size (xs := w.heap) (x := (Obj.cells #[Value.int IntKind.i64 0] 25 : Obj))
  refine ⟨below_alloc (below_alloc (Below.refl _ _) _) _, by rw [s1, s1], ?_, b2⟩
  exact ((below_alloc (w := w.alloc (Obj.cells #[Value.int IntKind.i64 0] 25)) (Below.refl _ _) (Obj.cells #[Value.int IntKind.i64 0] 3)).block w.heap.size (by rw [s1]; omega)).trans b1
theorem TwoBoxes2.size_le {w W : World} (h : TwoBoxes2 w W) : w.heap.size ≤ W.heap.size := h.bel.size
theorem TwoBoxes2.heap_le {w W : World} (h : TwoBoxes2 w W) : w.heap.size + 1 < W.heap.size := by rw [h.sz]; omega
theorem TwoBoxes2.later {w W W2 : World} (h : TwoBoxes2 w W) (hb : Below W.heap.size W W2) : W2.cell? ⟨w.heap.size, 0, none⟩ = some (.int .i64 0) ∧ W2.frozen? ⟨w.heap.size, 0, none⟩ = false ∧ W2.cell? ⟨w.heap.size + 1, 0, none⟩ = some (.int .i64 0) ∧ W2.frozen? ⟨w.heap.size + 1, 0, none⟩ = false := by
  have e1 := (hb.block w.heap.size (by have := h.heap_le; omega)).trans h.h1
  have e2 := (hb.block (w.heap.size + 1) h.heap_le).trans h.h2
  refine ⟨by rw [cell_of_row W2 _ 0 _ _ _ e1]; rfl, by simp [World.frozen?, e1], by rw [cell_of_row W2 _ 0 _ _ _ e2]; rfl, by simp [World.frozen?, e2]⟩

/-- What Strip returns. -/
def StripPost (s : ByteArray) (w : World) (e : Ending) (w' : World) : Prop :=
  e = .returned (.tuple #[.string ⟨(Lex.stripL s.data.toList).1.toArray⟩, .int .i64 ((Lex.stripL s.data.toList).2 : Nat)]) ∧ Below w.heap.size w w'
theorem stripL_long (s : ByteArray) (h : 100000 < s.size) : Lex.stripL s.data.toList = ([], 2) := by
  unfold Lex.stripL
  rw [if_pos (by simpa using h)]
theorem stripL_err (s : ByteArray) (h : s.size ≤ 100000) (p : Nat) (hc : Lex.cutL s.data.toList = .err p) : Lex.stripL s.data.toList = ([], 10) := by
  unfold Lex.stripL
  rw [if_neg (by simpa using h), hc]
theorem stripL_many (s : ByteArray) (h : s.size ≤ 100000) (ts : List Lex.Tok) (cs : List (Nat × Nat)) (hc : Lex.cutL s.data.toList = .done ts cs) (hn : 20000 < ts.length) : Lex.stripL s.data.toList = ([], 2) := by
  unfold Lex.stripL
  rw [if_neg (by simpa using h), hc]
  simp only
  rw [if_pos hn]
theorem stripL_done (s : ByteArray) (h : s.size ≤ 100000) (ts : List Lex.Tok) (cs : List (Nat × Nat)) (hc : Lex.cutL s.data.toList = .done ts cs) (hn : ¬ 20000 < ts.length) : Lex.stripL s.data.toList = (Lex.blankAll s.data.toList cs, 0) := by
  unfold Lex.stripL
  rw [if_neg (by simpa using h), hc]
  simp only
  rw [if_neg hn]
theorem stripPost_wrong {s : ByteArray} {w w1 w' : World} {p er : Nat} (hb : Below w.heap.size w w1) (hC : CaughtAt (w.heap.size + 1) w.heap.size (p : Int) (er : Int) w1 w') (h : Lex.stripL s.data.toList = ([], er)) :
    StripPost s w (.returned (.tuple #[.string ⟨#[]⟩, .int .i64 (er : Int)])) w' := by
  refine ⟨by rw [h], ?_⟩
  refine hb.trans (hC.2.2.below hb.size (fun k hk => ?_))
  omega

set_option maxRecDepth 100000 in
set_option maxHeartbeats 1000000 in
theorem strip_long (s : ByteArray) (w : World) (hs : 100000 < s.size) (hs2 : s.size ≤ 140737488351232) (hG : GL w) :
    Calls Tryz.prog 33 #[.string s] w (StripPost s w) := by
  have HG := Lib.hid hG
  clear hG
  go_enter_defers Tryz.func33, Tryz.ntmps33
  go_wp2_with fail
  have hW0 := two_boxes2 w
  generalize hW : (w.alloc (Obj.cells #[Value.int IntKind.i64 0] 25)).alloc (Obj.cells #[Value.int IntKind.i64 0] 3) = W0 at hW0 ⊢
  clear hW
  refine (newScanner_any s _ (HG.below hW0.bel)).mono ?_
  rintro e w1 ⟨g, wm, sm, rfl, hb, hwd, hsg, bg, bwm, bsm, hB⟩
  have HW0 := Lib.hid hW0
  have HB := Lib.hid hB
  clear hW0 hB
  go_wp2_with fail
  refine (cut_long g wm sm s _ _ _ hs hs2 hb).mono ?_
  rintro e w' ⟨rfl, rfl⟩
  have hx := HW0.later (HB.trans (Below.refl _ _))
  go_wp2_with fail
  refine leaves_cons (f := 43) (args := #[.pointer (some ⟨w.heap.size + 1, 0, none⟩), .pointer (some ⟨w.heap.size, 0, none⟩)]) (by simp) (by simp [go_sem]) ?_
  refine (caught_wrong (w.heap.size + 1) w.heap.size 0 0 0 2 [] _ hx.2.2.1 hx.2.2.2 hx.1 hx.2.1 (by omega)).mono ?_
  rintro e u' w'' ⟨rfl, rfl, hC⟩
  have hfin := stripPost_wrong (s := s) (er := 2) (HW0.bel.trans ((HB.trans (Below.refl _ _)).mono HW0.size_le)) hC (stripL_long s hs)
  have h1 := hC.1
  have h2 := hC.2.1
  clear hC hx
  simp [Leaves, settle, results, Tryz.results33, go_sem, h1, h2]
  exact hfin

set_option maxRecDepth 100000 in
set_option maxHeartbeats 1000000 in
theorem strip_err (s : ByteArray) (w : World) (hs : s.size ≤ 100000) (p : Nat) (hcut : Lex.cutL s.data.toList = .err p) (hG : GL w) :
    Calls Tryz.prog 33 #[.string s] w (StripPost s w) := by
  have HG := Lib.hid hG
  clear hG
  go_enter_defers Tryz.func33, Tryz.ntmps33
  go_wp2_with fail
  have hW0 := two_boxes2 w
  generalize hW : (w.alloc (Obj.cells #[Value.int IntKind.i64 0] 25)).alloc (Obj.cells #[Value.int IntKind.i64 0] 3) = W0 at hW0 ⊢
  clear hW
  refine (newScanner_any s _ (HG.below hW0.bel)).mono ?_
  rintro e w1 ⟨g, wm, sm, rfl, hb, hwd, hsg, bg, bwm, bsm, hB⟩
  have HW0 := Lib.hid hW0
  have HB := Lib.hid hB
  clear hW0 hB
  go_wp2_with fail
  have Hcut := Lib.hid hcut
  clear hcut
  refine (cut_any W0.heap.size g wm sm s w1 (by omega) (fun W hW => HG.below (HW0.bel.trans ((HB.trans hW).mono HW0.size_le))) hb hwd hsg bg HB.size).mono ?_
  rintro e w' ⟨rb, hBc, hpost⟩
  rw [Hcut.out] at hpost
  obtain rfl := hpost
  have hx := HW0.later (HB.trans (hBc))
  go_wp2_with fail
  refine leaves_cons (f := 43) (args := #[.pointer (some ⟨w.heap.size + 1, 0, none⟩), .pointer (some ⟨w.heap.size, 0, none⟩)]) (by simp) (by simp [go_sem]) ?_
  refine (caught_wrong (w.heap.size + 1) w.heap.size 0 0 (p : Int) 10 [] _ hx.2.2.1 hx.2.2.2 hx.1 hx.2.1 (by omega)).mono ?_
  rintro e u' w'' ⟨rfl, rfl, hC⟩
  have hfin := stripPost_wrong (s := s) (er := 10) (HW0.bel.trans ((HB.trans (hBc)).mono HW0.size_le)) hC (stripL_err s hs p Hcut)
  have h1 := hC.1
  have h2 := hC.2.1
  clear hC hx
  simp [Leaves, settle, results, Tryz.results33, go_sem, h1, h2]
  exact hfin

set_option maxRecDepth 100000 in
set_option maxHeartbeats 1000000 in
theorem strip_many (s : ByteArray) (w : World) (hs : s.size ≤ 100000) (ts : List Lex.Tok) (cs : List (Nat × Nat)) (hcut : Lex.cutL s.data.toList = .done ts cs) (hn : 20000 < ts.length) (hG : GL w) :
    Calls Tryz.prog 33 #[.string s] w (StripPost s w) := by
  have HG := Lib.hid hG
  clear hG
  go_enter_defers Tryz.func33, Tryz.ntmps33
  go_wp2_with fail
  have hW0 := two_boxes2 w
  generalize hW : (w.alloc (Obj.cells #[Value.int IntKind.i64 0] 25)).alloc (Obj.cells #[Value.int IntKind.i64 0] 3) = W0 at hW0 ⊢
  clear hW
  refine (newScanner_any s _ (HG.below hW0.bel)).mono ?_
  rintro e w1 ⟨g, wm, sm, rfl, hb, hwd, hsg, bg, bwm, bsm, hB⟩
  have HW0 := Lib.hid hW0
  have HB := Lib.hid hB
  clear hW0 hB
  go_wp2_with fail
  have Hcut := Lib.hid hcut
  have Hn := Lib.hid hn
  clear hcut hn
  refine (cut_any W0.heap.size g wm sm s w1 (by omega) (fun W hW => HG.below (HW0.bel.trans ((HB.trans hW).mono HW0.size_le))) hb hwd hsg bg HB.size).mono ?_
  rintro e w' ⟨rb, hBc, hpost⟩
  rw [Hcut.out] at hpost
  simp only [if_pos Hn.out] at hpost
  obtain rfl := hpost
  have hx := HW0.later (HB.trans (hBc))
  go_wp2_with fail
  refine leaves_cons (f := 43) (args := #[.pointer (some ⟨w.heap.size + 1, 0, none⟩), .pointer (some ⟨w.heap.size, 0, none⟩)]) (by simp) (by simp [go_sem]) ?_
  refine (caught_wrong (w.heap.size + 1) w.heap.size 0 0 0 2 [] _ hx.2.2.1 hx.2.2.2 hx.1 hx.2.1 (by omega)).mono ?_
  rintro e u' w'' ⟨rfl, rfl, hC⟩
  have hfin := stripPost_wrong (s := s) (er := 2) (HW0.bel.trans ((HB.trans (hBc)).mono HW0.size_le)) hC (stripL_many s hs ts cs Hcut Hn)
  have h1 := hC.1
  have h2 := hC.2.1
  clear hC hx
  simp [Leaves, settle, results, Tryz.results33, go_sem, h1, h2]
  exact hfin
end Go.Proofs.YtglgppkjgodlkaaGreatDoor
/- The walk of lex.Strip where the text is right. -/
namespace Go.Proofs.YtglgppkjgodlkaaGreatDoor
open Go.RowKit
set_option linter.unusedVariables false
set_option linter.unusedSimpArgs false

/-- At a round of the loop over the comments: the buffer as it is, and what is still to come. -/
structure StripAt (w' : World) (s : ByteArray) (cs : List (Nat × Nat)) (kb j : Nat) (cur : Lex.Bytes) (W : World) : Prop where
  le : j ≤ cs.length
  len : cur.length = s.size
  buf : BufAt W w'.heap.size cur kb
  bel : Below w'.heap.size w' W
  eq : Lex.blankAll cur (cs.drop j) = Lex.blankAll s.data.toList cs
/-- At a round of the loop over the bytes of one comment. -/
structure BlankIn (w' : World) (s : ByteArray) (cs : List (Nat × Nat)) (kb j a b h8 i : Nat) (cur : Lex.Bytes) (W : World) : Prop where
  le : a ≤ i
  ib : i ≤ b
  bs : b ≤ s.size
  jl : j < cs.length
  len : cur.length = s.size
  buf : BufAt W w'.heap.size cur kb
  bel : Below w'.heap.size w' W
  pair : W.heap[h8]? = some (.cells #[.int .i64 (a : Int), .int .i64 (b : Int)] 92 (0, 0))
  ne : h8 ≠ w'.heap.size
  eq : Lex.blankAll (Lex.blanked (b - i) cur i) (cs.drop (j + 1)) = Lex.blankAll s.data.toList cs
section
variable {w' W : World} {s : ByteArray} {cs : List (Nat × Nat)} {kb j a b h8 i : Nat} {cur : Lex.Bytes}
theorem StripAt.start (h : BufAt W w'.heap.size s.data.toList kb) (hb : Below w'.heap.size w' W) : StripAt w' s cs kb 0 s.data.toList W :=
  ⟨Nat.zero_le _, by simp, h, hb, by rw [List.drop_zero]⟩
theorem StripAt.enter (h : StripAt w' s cs kb j cur W) (hj : j < cs.length) (hc : Lex.ComIn s.size cs) (ha : a = cs[j].1) (hbb : b = cs[j].2) {W2 : World} (hB : Below W.heap.size W W2) (hp : W2.heap[h8]? = some (.cells #[.int .i64 (a : Int), .int .i64 (b : Int)] 92 (0, 0))) (hne : h8 ≠ w'.heap.size) :
    BlankIn w' s cs kb j a b h8 a cur W2 := by
  have hin := hc cs[j] (List.getElem_mem hj)
  refine ⟨Nat.le_refl _, by omega, by omega, hj, h.len, h.buf.move (hB.block _ h.buf.lt), h.bel.trans (hB.mono h.bel.size), hp, hne, ?_⟩
  rw [← h.eq, List.drop_eq_getElem_cons hj]
  subst ha hbb
  rfl
theorem StripAt.back (h : StripAt w' s cs kb j cur W) (cap : Nat) : (convert 78 9 (.slice (some ⟨w'.heap.size, 0, none⟩) s.size cap)).run Tryz.prog W = .ok (.string ⟨cur.toArray⟩) W := by
  have := run_convert_bytes_back (P := Tryz.prog) W 78 9 5 ⟨w'.heap.size, 0, none⟩ cap cur Tryz.underlying78 Tryz.underlying5 Tryz.underlying9 (fun i hi => by
    have hadd : (⟨w'.heap.size, 0, none⟩ : Addr).add i = ⟨w'.heap.size, i, none⟩ := by
      unfold Addr.add
      split
      · rename_i h0; rw [h0]
      · simp
    rw [hadd]
    exact h.buf.cell i hi)
  rw [h.len] at this
  exact this
theorem StripAt.ends (h : StripAt w' s cs kb j cur W) (hj : ¬ j < cs.length) : cur = Lex.blankAll s.data.toList cs := by
  rw [← h.eq, List.drop_of_length_le (by omega)]
  rfl
theorem own_len {w : World} {base : Nat} {e : TypeId} {size n : Nat} {v : Value} {xs : List Value} (h : w.ownsRow base e size v n xs) : n ≤ maxLen := by
  rcases h.2 with ⟨_, h2⟩ | ⟨gg, cap, cur, hv, hg, hh, h1, h2, _⟩
  · omega
  · omega
theorem wrap_next {j n : Nat} (h : j < n) (hn : n ≤ maxLen) : wrap64 ((j : Int) + 1) = ((j + 1 : Nat) : Int) := by
  have : maxLen = 9223372036854775807 := by decide
  unfold wrap64
  omega
theorem drop_less {j n k : Nat} (h : j < n) (hk : n - j ≤ k) : n - (j + 1) < k := by omega
/-- the two numbers of a comment, where the row of comments tells them -/
theorem com_cells {W0 : Nat} {gc n cap : Nat} {w : World} {cs : List (Nat × Nat)} (h : w.ownsRow W0 92 2 (.slice (some ⟨gc, 0, none⟩) n cap) n (comCells cs)) (hn : n = cs.length) (j : Nat) (hj : j < cs.length) :
    w.cell? ⟨gc, j * 2, none⟩ = some (.int .i64 (cs[j].1 : Int)) ∧ w.cell? ⟨gc, j * 2 + 1, none⟩ = some (.int .i64 (cs[j].2 : Int)) := by
  have hx : ∀ (l : List (Nat × Nat)) (j : Nat) (hj : j < l.length), (comCells l)[j * 2]? = some (.int .i64 (l[j].1 : Int)) ∧ (comCells l)[j * 2 + 1]? = some (.int .i64 (l[j].2 : Int)) := by
    intro l
    induction l with
    | nil => intro j hj; simp at hj
    | cons c l ih =>
      intro j hj
      cases j with
      | zero => exact ⟨rfl, rfl⟩
      | succ j =>
        have := ih j (by simpa using hj)
        rw [show (j + 1) * 2 = j * 2 + 2 by omega]
        exact this
  obtain ⟨h1, h2⟩ := hx cs j hj
  exact ⟨(h.cellAt _ (by omega)).trans h1, (h.cellAt _ (by omega)).trans h2⟩
theorem BlankIn.leave (h : BlankIn w' s cs kb j a b h8 i cur W) (hi : ¬ i < b) : StripAt w' s cs kb (j + 1) cur W := by
  refine ⟨h.jl, h.len, h.buf, h.bel, ?_⟩
  have h1 := h.ib
  rw [← h.eq, show b - i = 0 by omega]
  rfl
theorem BlankIn.drew (h : BlankIn w' s cs kb j a b h8 i cur W) (n : Nat) : BlankIn w' s cs kb j a b h8 i cur (W.drewN n) :=
  ⟨h.le, h.ib, h.bs, h.jl, h.len, h.buf.move rfl, h.bel.trans ((below_drewN' W n).mono h.bel.size), h.pair, h.ne, h.eq⟩
theorem BlankIn.lt (h : BlankIn w' s cs kb j a b h8 i cur W) (hi : i < b) : i < cur.length := by
  have h1 := h.len; have h2 := h.bs; omega
theorem BlankIn.skip (h : BlankIn w' s cs kb j a b h8 i cur W) (hi : i < b) (hc : cur[i]'(h.lt hi) = 10) : BlankIn w' s cs kb j a b h8 (i + 1) cur W := by
  refine ⟨by have := h.le; omega, hi, h.bs, h.jl, h.len, h.buf, h.bel, h.pair, h.ne, ?_⟩
  have e := h.eq
  rw [show b - i = (b - (i + 1)) + 1 by omega, Lex.blanked] at e
  rw [show Lex.blankAt cur i = cur by unfold Lex.blankAt; rw [if_pos (by simp [List.getD, h.lt hi, hc])]] at e
  exact e
theorem BlankIn.put (h : BlankIn w' s cs kb j a b h8 i cur W) (hi : i < b) (hc : ¬ cur[i]'(h.lt hi) = 10) : BlankIn w' s cs kb j a b h8 (i + 1) (cur.set i 32) (W.setCell ⟨w'.heap.size, i, none⟩ (.int .u8 32)) := by
  refine ⟨by have := h.le; omega, hi, h.bs, h.jl, by rw [List.length_set]; exact h.len, h.buf.set i (h.lt hi) 32, h.bel.setCell (Nat.le_refl _) _, (Below.heap_setCell _ _ _ _ (fun e => h.ne e)).trans h.pair, h.ne, ?_⟩
  have e := h.eq
  rw [show b - i = (b - (i + 1)) + 1 by omega, Lex.blanked] at e
  rw [show Lex.blankAt cur i = cur.set i 32 by unfold Lex.blankAt; rw [if_neg (by simpa [List.getD, h.lt hi] using hc)]] at e
  exact e
theorem BlankIn.cell0 (h : BlankIn w' s cs kb j a b h8 i cur W) : W.cell? ⟨h8, 0, none⟩ = some (.int .i64 (a : Int)) := by rw [cell_of_row W h8 0 _ _ _ h.pair]; rfl
theorem BlankIn.cell1 (h : BlankIn w' s cs kb j a b h8 i cur W) : W.cell? ⟨h8, 1, none⟩ = some (.int .i64 (b : Int)) := by rw [cell_of_row W h8 1 _ _ _ h.pair]; rfl
end

set_option maxRecDepth 100000 in
set_option maxHeartbeats 1000000 in
theorem strip_done (s : ByteArray) (w : World) (hs : s.size ≤ 100000) (ts : List Lex.Tok) (cs : List (Nat × Nat)) (hcut : Lex.cutL s.data.toList = .done ts cs) (hn : ¬ 20000 < ts.length) (hG : GL w) :
    Calls Tryz.prog 33 #[.string s] w (StripPost s w) := by
  have HG := Lib.hid hG
  clear hG
  go_enter_defers Tryz.func33, Tryz.ntmps33
  go_wp2_with fail
  have hW0 := two_boxes2 w
  generalize hW : (w.alloc (Obj.cells #[Value.int IntKind.i64 0] 25)).alloc (Obj.cells #[Value.int IntKind.i64 0] 3) = W0 at hW0 ⊢
  clear hW
  refine (newScanner_any s _ (HG.below hW0.bel)).mono ?_
  rintro e w1 ⟨g, wm, sm, rfl, hb, hwd, hsg, bg, bwm, bsm, hB⟩
  have HW0 := Lib.hid hW0
  have HB := Lib.hid hB
  clear hW0 hB
  go_wp2_with fail
  have Hcut := Lib.hid hcut
  have Hn := Lib.hid hn
  clear hcut hn
  refine (cut_any W0.heap.size g wm sm s w1 (by omega) (fun W hW => HG.below (HW0.bel.trans ((HB.trans hW).mono HW0.size_le))) hb hwd hsg bg HB.size).mono ?_
  rintro e w' ⟨rb, hBc, hpost⟩
  rw [Hcut.out] at hpost
  simp only [if_neg Hn.out] at hpost
  obtain ⟨rfl, ov, cv, hS⟩ := hpost
  have hcv2 : ∀ W : World, (convert 9 78 (.string s)).run Tryz.prog W = .ok (.slice (some ⟨W.heap.size, 0, none⟩) s.size (grownCap W s.size 0 5)) (Lib.bytesWorld W 5 s) := fun W => Lib.run_convert_string_bytes W _ _ _ s Tryz.underlying9 Tryz.underlying78 Tryz.underlying5
  obtain ⟨kb, hbuf⟩ := bytes_buf w' s
  have hbb := bytes_below w' s
  obtain ⟨A, cp, hform⟩ := own_form hS.com
  have c5 := hS.blk.c5
  rw [hform] at c5
  have c5b : (Lib.bytesWorld w' 5 s).cell? ⟨g, 5, none⟩ = _ := ((hS.blk.below hbb).c5).trans (congrArg some hform)
  have Hform := Lib.hid hform
  have HS := Lib.hid hS
  have Hbuf := Lib.hid hbuf
  have Hbb := Lib.hid hbb
  clear hS hbuf hbb hform
  go_wp2_with fail
  have hst := StripAt.start (cs := cs) Hbuf Hbb
  go_loopg [21] cs.length (fun k t wr => ∃ (j : Nat) (cur : Lex.Bytes), cs.length - j ≤ k ∧ t = .int .i64 (j : Int) ∧ StripAt w' s cs kb j cur wr)
  case atStart => exact ⟨0, _, Nat.le_refl _, rfl, hst⟩
  case round =>
    obtain ⟨j, cur, hk, rfl, hI⟩ := hrel
    by_cases hlt : j < cs.length
    · have hlt2 : (j : Int) < (cs.length : Int) := by omega
      obtain ⟨gc, cap, hv, _, hgc⟩ := HS.com.form (by omega)
      have hv2 := Hform.symm.trans hv
      injection hv2 with hA _ hcap
      subst hA hcap
      have hcc := com_cells (hv ▸ HS.com) rfl j hlt
      have k0 : wr.cell? ⟨gc, j * 2, none⟩ = _ := (hI.bel.cell (p := ⟨gc, j * 2, none⟩) hgc).trans hcc.1
      have k1 : wr.cell? ⟨gc, j * 2 + 1, none⟩ = _ := (hI.bel.cell (p := ⟨gc, j * 2 + 1, none⟩) hgc).trans hcc.2
      clear hcc
      go_wp2_with fail
      generalize hW2 : (wr.alloc (Obj.cells #[Value.int IntKind.i64 (cs[j].1 : Int), Value.int IntKind.i64 (cs[j].2 : Int)] 92)) = W2
      have hcl := own_len HS.com
      have hw64 := wrap_next hlt hcl
      have hlow := drop_less hlt hk
      have hl := fun o : Obj => (Array.getElem?_push_size (xs := wr.heap) (x := o))
      have hin : BlankIn w' s cs kb j cs[j].1 cs[j].2 wr.heap.size cs[j].1 cur W2 := by
        have hB2 : Below wr.heap.size wr W2 := hW2 ▸ below_alloc (Below.refl _ _) _
        refine hI.enter hlt (by have := Lex.cut_coms Hcut.out; rwa [show s.data.toList.length = s.size by simp] at this) rfl rfl hB2 (by rw [← hW2]; exact hl _) ?_
        have := hI.buf.lt
        omega
      clear hl hI k0 k1 hW2
      generalize cs[j].1 = a at *
      generalize cs[j].2 = b at *
      generalize wr.heap.size = h8 at *
      go_loopg [9] (b - a) (fun k t wq => ∃ (i : Nat) (cur : Lex.Bytes), b - i ≤ k ∧ t = .int .i64 (i : Int) ∧ BlankIn w' s cs kb j a b h8 i cur wq)
      case atStart => exact ⟨a, _, Nat.le_refl _, rfl, hin⟩
      case round =>
        obtain ⟨i, cur, hk2, rfl, hJ⟩ := hrel
        have k1 := hJ.cell1
        by_cases hib : i < b
        · have hi2 : (i : Int) < (b : Int) := by omega
          have hi3 := hJ.lt hib
          have hi4 := hJ.len
          have kc := hJ.buf.cell i hi3
          have kf := hJ.buf.fr i hi3
          by_cases hc : cur[i] = 10
          · have hc2 : (((cur[i].toNat : Nat) : Int) == 10) = true := by rw [hc]; rfl
            go_wp2_with fail
            go_roundg (b - (i + 1))
            case measure => omega
            case rel => exact ⟨i + 1, cur, Nat.le_refl _, by go_num, hJ.skip hib hc⟩
          · have hc2 : (((cur[i].toNat : Nat) : Int) == 10) = false := by
              refine beq_eq_false_iff_ne.2 (fun e => hc ?_)
              exact UInt8.toNat_inj.1 (by rw [show ((10 : UInt8).toNat) = 10 from rfl]; omega)
            go_wp2_with fail
            go_roundg (b - (i + 1))
            case measure => omega
            case rel => exact ⟨i + 1, _, Nat.le_refl _, by go_num, hJ.put hib hc⟩
        · have hi2 : ¬ (i : Int) < (b : Int) := by omega
          go_wp2_with fail
          go_roundg (cs.length - (j + 1))
          case measure => exact hlow
          case rel => exact ⟨j + 1, _, Nat.le_refl _, by first | rfl | (rw [hw64]) | go_num, hJ.leave hib⟩
    · have hlt2 : ¬ (j : Int) < (cs.length : Int) := by omega
      have hback := hI.back
      have hx := HW0.later (HB.trans (hBc.trans (hI.bel.mono HS.bB)))
      have x1 := hx.1
      have x2 := hx.2.1
      have x3 := hx.2.2.1
      have x4 := hx.2.2.2
      have HI := Lib.hid hI
      clear hx hI
      go_wp2_with fail
      unfold bodyPostD
      refine leaves_cons (f := 43) (args := #[.pointer (some ⟨w.heap.size + 1, 0, none⟩), .pointer (some ⟨w.heap.size, 0, none⟩)]) (by simp) (by simp [go_sem]) ?_
      refine (caught_idle _ _ _).mono ?_
      rintro e u' w'' ⟨rfl, rfl, rfl⟩
      have hz : ∀ v, (wr.setCell ⟨w.heap.size, 0, none⟩ v).cell? ⟨w.heap.size, 0, none⟩ = some v := fun v => by simp [go_sem, x1]
      have hE := stripL_done s hs ts cs Hcut Hn
      rw [← HI.ends hlt] at hE
      have hfin : StripPost s w (.returned (.tuple #[.string ⟨cur.toArray⟩, .int .i64 0])) (wr.setCell ⟨w.heap.size, 0, none⟩ (.int .i64 0)) := by
        refine ⟨by rw [hE]; rfl, ?_⟩
        exact (HW0.bel.trans ((HB.trans (hBc.trans (HI.bel.mono HS.bB))).mono HW0.size_le)).setCell (Nat.le_refl _) _
      simp [Leaves, settle, results, Tryz.results33, go_sem, hz, x1]
      exact hfin
/-- THE CONTRACT OF lex.Strip. -/
theorem strip_any (s : ByteArray) (w : World) (hs : s.size ≤ 140737488351232) (hG : GL w) :
    Calls Tryz.prog 33 #[.string s] w (StripPost s w) := by
  by_cases h1 : 100000 < s.size
  · exact strip_long s w h1 hs hG
  · cases hc : Lex.cutL s.data.toList with
    | err p => exact strip_err s w (by omega) p hc hG
    | done ts cs =>
      by_cases h2 : 20000 < ts.length
      · exact strip_many s w (by omega) ts cs hc h2 hG
      · exact strip_done s w (by omega) ts cs hc h2 hG
end Go.Proofs.YtglgppkjgodlkaaGreatDoor
/- Package strings' Builder, laid at this program: the shelf's contracts at these numbers. Conditions: none. -/
namespace Go.Proofs.YtglgppkjgodlkaaGreatDoor
open Go.RowKit
set_option linter.unusedVariables false
set_option linter.unusedSimpArgs false

def builderRen : Go.Shelf.Ren := ⟨fun | 166 => 52 | 167 => 51 | 169 => 55 | 170 => 54 | 240 => 78 | 276 => 94 | n => n, fun | 0 => 0 | 3 => 3 | 4 => 4 | 5 => 5 | 9 => 9 | 20 => 20 | 37 => 78 | 70 => 77 | 72 => 80 | 75 => 82 | 80 => 87 | 127 => 108 | 164 => 116 | n => n, fun | n => n⟩
theorem builder_lays166 : Go.Proofs.Lays.n166 Tryz.prog builderRen := {
  mixed := by kernel_rfl
  f166 := Tryz.func52.trans (congrArg some (by kernel_rfl))
  f240 := Tryz.func78.trans (congrArg some (by kernel_rfl))
  f276 := Tryz.func94.trans (congrArg some (by kernel_rfl))
  t0 := Tryz.underlying0
  a0 := Tryz.isAgg0
  z0 := Tryz.sizeOf0
  v0 := Tryz.zeroValue0
  t3 := Tryz.underlying3
  a3 := Tryz.isAgg3
  z3 := Tryz.sizeOf3
  v3 := Tryz.zeroValue3
  t4 := Tryz.underlying4
  a4 := Tryz.isAgg4
  z4 := Tryz.sizeOf4
  v4 := Tryz.zeroValue4
  t9 := Tryz.underlying9
  a9 := Tryz.isAgg9
  z9 := Tryz.sizeOf9
  v9 := Tryz.zeroValue9
  t20 := Tryz.underlying20
  a20 := Tryz.isAgg20
  z20 := Tryz.sizeOf20
  v20 := Tryz.zeroValue20
  t37 := Tryz.underlying78
  a37 := Tryz.isAgg78
  z37 := Tryz.sizeOf78
  v37 := Tryz.zeroValue78
  t70 := Tryz.underlying77
  a70 := Tryz.isAgg77
  z70 := Tryz.sizeOf77
  v70 := Tryz.zeroValue77
  t72 := Tryz.underlying80
  a72 := Tryz.isAgg80
  z72 := Tryz.sizeOf80
  v72 := Tryz.zeroValue80
  t75 := Tryz.underlying82
  a75 := Tryz.isAgg82
  z75 := Tryz.sizeOf82
  v75 := Tryz.zeroValue82
  t164 := Tryz.underlying116
  a164 := Tryz.isAgg116
  z164 := Tryz.sizeOf116
  v164 := Tryz.zeroValue116
}
theorem builder_lays167 : Go.Proofs.Lays.n167 Tryz.prog builderRen := {
  mixed := by kernel_rfl
  f167 := Tryz.func51.trans (congrArg some (by kernel_rfl))
  f240 := Tryz.func78.trans (congrArg some (by kernel_rfl))
  f276 := Tryz.func94.trans (congrArg some (by kernel_rfl))
  t0 := Tryz.underlying0
  a0 := Tryz.isAgg0
  z0 := Tryz.sizeOf0
  v0 := Tryz.zeroValue0
  t4 := Tryz.underlying4
  a4 := Tryz.isAgg4
  z4 := Tryz.sizeOf4
  v4 := Tryz.zeroValue4
  t5 := Tryz.underlying5
  a5 := Tryz.isAgg5
  z5 := Tryz.sizeOf5
  v5 := Tryz.zeroValue5
  t9 := Tryz.underlying9
  a9 := Tryz.isAgg9
  z9 := Tryz.sizeOf9
  v9 := Tryz.zeroValue9
  t20 := Tryz.underlying20
  a20 := Tryz.isAgg20
  z20 := Tryz.sizeOf20
  v20 := Tryz.zeroValue20
  t37 := Tryz.underlying78
  a37 := Tryz.isAgg78
  z37 := Tryz.sizeOf78
  v37 := Tryz.zeroValue78
  t70 := Tryz.underlying77
  a70 := Tryz.isAgg77
  z70 := Tryz.sizeOf77
  v70 := Tryz.zeroValue77
  t72 := Tryz.underlying80
  a72 := Tryz.isAgg80
  z72 := Tryz.sizeOf80
  v72 := Tryz.zeroValue80
  t75 := Tryz.underlying82
  a75 := Tryz.isAgg82
  z75 := Tryz.sizeOf82
  v75 := Tryz.zeroValue82
  t164 := Tryz.underlying116
  a164 := Tryz.isAgg116
  z164 := Tryz.sizeOf116
  v164 := Tryz.zeroValue116
}
theorem builder_lays169 : Go.Proofs.Lays.n169 Tryz.prog builderRen := {
  mixed := by kernel_rfl
  f169 := Tryz.func55.trans (congrArg some (by kernel_rfl))
  t0 := Tryz.underlying0
  a0 := Tryz.isAgg0
  z0 := Tryz.sizeOf0
  v0 := Tryz.zeroValue0
  t3 := Tryz.underlying3
  a3 := Tryz.isAgg3
  z3 := Tryz.sizeOf3
  v3 := Tryz.zeroValue3
  t9 := Tryz.underlying9
  a9 := Tryz.isAgg9
  z9 := Tryz.sizeOf9
  v9 := Tryz.zeroValue9
  t37 := Tryz.underlying78
  a37 := Tryz.isAgg78
  z37 := Tryz.sizeOf78
  v37 := Tryz.zeroValue78
  t70 := Tryz.underlying77
  a70 := Tryz.isAgg77
  z70 := Tryz.sizeOf77
  v70 := Tryz.zeroValue77
  t72 := Tryz.underlying80
  a72 := Tryz.isAgg80
  z72 := Tryz.sizeOf80
  v72 := Tryz.zeroValue80
  t127 := Tryz.underlying108
  a127 := Tryz.isAgg108
  z127 := Tryz.sizeOf108
  v127 := Tryz.zeroValue108
}
theorem builder_lays170 : Go.Proofs.Lays.n170 Tryz.prog builderRen := {
  mixed := by kernel_rfl
  f170 := Tryz.func54.trans (congrArg some (by kernel_rfl))
  t0 := Tryz.underlying0
  a0 := Tryz.isAgg0
  z0 := Tryz.sizeOf0
  v0 := Tryz.zeroValue0
  t3 := Tryz.underlying3
  a3 := Tryz.isAgg3
  z3 := Tryz.sizeOf3
  v3 := Tryz.zeroValue3
  t37 := Tryz.underlying78
  a37 := Tryz.isAgg78
  z37 := Tryz.sizeOf78
  v37 := Tryz.zeroValue78
  t70 := Tryz.underlying77
  a70 := Tryz.isAgg77
  z70 := Tryz.sizeOf77
  v70 := Tryz.zeroValue77
  t72 := Tryz.underlying80
  a72 := Tryz.isAgg80
  z72 := Tryz.sizeOf80
  v72 := Tryz.zeroValue80
}
theorem builder_extra : Go.Proofs.Builder.Extra Tryz.prog builderRen where
  sizeBuilder := by kernel_rfl
  liesBuilder := by kernel_rfl
  t5 := Tryz.underlying5
  a5 := Tryz.isAgg5
  z5 := Tryz.sizeOf5
  v5 := Tryz.zeroValue5
  infoByte := by kernel_rfl
  cellsByte := by kernel_rfl
  sizeByte := by kernel_rfl
  neB5 := by decide

/-- A builder that holds the bytes l. -/
def Bld (B b : Nat) (l : Lex.Bytes) (w : World) : Prop := Lib.IsBuilderF 80 5 B b (Lib.byteCells l) w
/-- All blocks but the builder's, and rows of bytes, stand as they stood. -/
def Kept (b : Nat) (w w' : World) : Prop := Lib.OthersKept 5 (some b) w w'
theorem bld_byte (B b : Nat) (l : Lex.Bytes) (c : UInt8) (w : World) (h : Bld B b l w) (hlen : l.length + 1 ≤ 140737488355328) (hBw : B ≤ w.heap.size) :
    Calls Tryz.prog 51 #[.pointer (some ⟨b, 0, none⟩), .int .u8 (c.toNat : Int)] w fun e w' => e = .returned .nilIface ∧ Bld B b (l ++ [c]) w' ∧ Below B w w' ∧ Kept b w w' := by
  refine (Any.Builder_WriteByte_k builder_lays167 builder_extra B b (Lib.byteCells l) c.toNat w h (by rw [Lib.byteCells_length]; exact hlen) hBw).mono ?_
  rintro e w' ⟨rfl, h2, h3, h4⟩
  refine ⟨rfl, .inr ?_, h3, h4⟩
  rw [Lib.byteCells_append]
  exact h2
theorem bld_str (B b : Nat) (l : Lex.Bytes) (s : ByteArray) (w : World) (h : Bld B b l w) (hlen : l.length + s.size ≤ 140737488355328) (hBw : B ≤ w.heap.size) :
    Calls Tryz.prog 52 #[.pointer (some ⟨b, 0, none⟩), .string s] w fun e w' => e = .returned (.tuple #[.int .i64 s.size, .nilIface]) ∧ Bld B b (l ++ s.data.toList) w' ∧ Below B w w' ∧ Kept b w w' := by
  refine (Any.Builder_WriteString_k builder_lays166 builder_extra B b (Lib.byteCells l) s w h (by rw [Lib.byteCells_length]; exact hlen) hBw).mono ?_
  rintro e w' ⟨rfl, h2, h3, h4⟩
  refine ⟨rfl, .inr ?_, h3, h4⟩
  rw [Lib.byteCells_append]
  exact h2
theorem bld_len (B b : Nat) (l : Lex.Bytes) (w : World) (h : Bld B b l w) :
    Calls Tryz.prog 54 #[.pointer (some ⟨b, 0, none⟩)] w fun e w' => e = .returned (.int .i64 l.length) ∧ w' = w := by
  refine (Any.Builder_Len_f builder_lays170 B b (Lib.byteCells l) w h).mono ?_
  rintro e w' ⟨rfl, rfl⟩
  exact ⟨by rw [Lib.byteCells_length], rfl⟩
theorem bld_string (B b : Nat) (l : Lex.Bytes) (w : World) (h : Bld B b l w) (hBw : B ≤ w.heap.size) :
    Calls Tryz.prog 55 #[.pointer (some ⟨b, 0, none⟩)] w fun e w' => e = .returned (.string ⟨l.toArray⟩) ∧ Below B w w' := by
  refine (Any.Builder_String_any_k builder_lays169 builder_extra B b l w h hBw).mono ?_
  rintro e w' ⟨rfl, h2, h3, h4⟩
  exact ⟨rfl, h3⟩
theorem bld_new (w : World) (B : Nat) (hB : B ≤ w.heap.size) : Bld B w.heap.size [] (w.alloc (.cells #[.pointer none, .slice none 0 0] 80)) := by
  refine .inl ⟨hB, .slice none 0 0, Array.getElem?_push_size, World.ownsRowF_nil _ _ _ _, by simp [Value.ownBlock]⟩
theorem Bld.below {B b : Nat} {l : Lex.Bytes} {w w' : World} (h : Bld B b l w) (hb : Below w.heap.size w w') : Bld B b l w' := by
  have hA : ∀ {p}, Lib.BuilderAtF 80 5 B b p (Lib.byteCells l) w → Lib.BuilderAtF 80 5 B b p (Lib.byteCells l) w' := fun {p} h => by
    obtain ⟨h1, v, h2, h3, h4⟩ := h
    refine ⟨h1, v, (hb.block b (Array.getElem?_eq_some_iff.1 h2).1).trans h2, ⟨h3.1, ?_⟩, h4⟩
    rcases h3.2 with hn | ⟨g, cap, cur, fz, hv, hg, hh, r⟩
    · exact .inl hn
    · exact .inr ⟨g, cap, cur, fz, hv, hg, (hb.block g (Array.getElem?_eq_some_iff.1 hh).1).trans hh, r⟩
  rcases h with h | h
  · exact .inl (hA h)
  · exact .inr (hA h)

theorem count_any (a0 a1 : ByteArray) (h : a1.size = 1) (w : World) : Calls Tryz.prog 58 #[.string a0, .string a1] w fun e w' => e = .returned (.int .i64 (Lib.countByte a0.data.toList (a1.data.toList.getD 0 0))) ∧ w' = w := by
  have e : a1 = ⟨#[a1.data.toList.getD 0 0]⟩ := by
    obtain ⟨⟨l⟩⟩ := a1
    match l, h with
    | [x], _ => rfl
    | [], h => cases h
    | _ :: _ :: _, h => simp [ByteArray.size] at h
  have := Tryz.strings_Count_one a0 (a1.data.toList.getD 0 0) w
  rw [← e] at this
  exact this
end Go.Proofs.YtglgppkjgodlkaaGreatDoor
