/- Parts LF, LG, LH, LI, LJ, LK of the walks of package lex, in one text. -/
import Derived.Test.YtjcocblohiglbaaGreatDoorMB
import Derived.Maps.OwnSet
/- The walk of (*scanner).comment: a comment is passed over, or there is no end of it. -/
namespace Go.Proofs.YtjcocblohiglbaaGreatDoor
open Go.RowKit
set_option linter.unusedVariables false
set_option linter.unusedSimpArgs false

theorem info_pair : (Tryz.prog.info? 160).map (fun i => (i.zero, i.size, i.bytes)) = some (some (.agg #[.int .i64 0, .int .i64 0]), 2, 16) := by kernel_rfl

/-- The scanner's block and its row of comments, behind a comment. -/
def TookC (B : Nat) (w w' : World) (g : Nat) (s : ByteArray) (e : Int) (wm sm : Nat) (ov cv : Value) (m : Nat) (ys : List Value) : Prop :=
  ∃ cv', ScBlk w' g s e wm sm ov cv' ∧ w'.ownsRow B 160 2 cv' m ys ∧ Chg w w' (fun k => k ≠ g ∧ cv.ownBlock ≠ some k)
theorem tookC_close {B : Nat} {w w1 : World} {g : Nat} {s : ByteArray} {p e : Int} {wm sm : Nat} {ov cv v : Value} {m : Nat} {ys : List Value} (h3 : ScBlk w1 g s p wm sm ov cv)
    (hown : w1.ownsRow B 160 2 v m ys) (hC : Chg w w1 (fun k => k ≠ g ∧ cv.ownBlock ≠ some k)) :
    TookC B w ((w1.setCell ⟨g, 5, none⟩ v).setCell ⟨g, 1, none⟩ (.int .i64 e)) g s e wm sm ov cv m ys := by
  have hne : v.ownBlock ≠ some g := own_ne hown h3 (by decide)
  refine ⟨v, (h3.set5 v).set1 e, own_setCell (own_setCell hown hne _) hne _, ?_⟩
  exact (hC.trans ((Chg.of_setCell _ _ _).mono (fun k _ hk => hk.1))).trans ((Chg.of_setCell _ _ _).mono (fun k _ hk => hk.1))

/-- what is left of a comment at byte i, d being open, tells how long it is from p on -/
def ComAt (s : ByteArray) (p i d : Nat) : Prop :=
  p ≤ i ∧ (i = p ∧ d = 0 ∨ 1 ≤ d) ∧ d ≤ i ∧ Lex.comLen 0 (s.data.toList.drop p) = (Lex.comLen d (s.data.toList.drop i)).map (· + (i - p))
def rest (s : ByteArray) (i : Nat) : List UInt8 := s.data.toList.drop i
theorem rest_data (s : ByteArray) (i : Nat) : (s.extract i s.size).data.toList = rest s i := by
  unfold rest
  rw [ByteArray.data_extract, Array.toList_extract]
  simp [List.extract_eq_take_drop]
  rw [List.take_of_length_le (by simp)]
theorem rest_step (s : ByteArray) (i : Nat) (h : i < s.size) : rest s i = s[i] :: rest s (i + 1) := by
  unfold rest
  rw [List.drop_eq_getElem_cons (by simpa using h)]
  rfl
theorem rest_end (s : ByteArray) (i : Nat) (h : s.size ≤ i) : rest s i = [] := by
  unfold rest
  exact List.drop_of_length_le (by simpa using h)
theorem ComAt.start (s : ByteArray) (p : Nat) : ComAt s p p 0 := by
  refine ⟨Nat.le_refl _, .inl ⟨rfl, rfl⟩, Nat.zero_le _, ?_⟩
  cases Lex.comLen 0 (s.data.toList.drop p) <;> simp
theorem pre2 {l : List UInt8} {a b : UInt8} (h : Lib.hasPrefix l [a, b] = true) : ∃ r, l = a :: b :: r := by
  unfold Lib.hasPrefix at h
  match l with
  | [] => simp [List.isPrefixOf] at h
  | [x] => simp [List.isPrefixOf] at h
  | x :: y :: r =>
    simp [List.isPrefixOf] at h
    exact ⟨r, by rw [h.1, h.2]⟩
theorem rest_two {s : ByteArray} {i : Nat} {a b : UInt8} {r : List UInt8} (h : rest s i = a :: b :: r) : rest s (i + 2) = r ∧ i + 2 ≤ s.size := by
  have h1 : rest s (i + 2) = (rest s i).drop 2 := by unfold rest; rw [List.drop_drop]
  have h2 : (rest s i).length = s.size - i := by unfold rest; simp
  rw [h] at h1 h2
  simp at h1 h2
  exact ⟨h1, by omega⟩
theorem comLen_deeper (d : Nat) (r : List UInt8) : Lex.comLen d (40 :: 42 :: r) = (Lex.comLen (d + 1) r).map (· + 2) := by
  rw [Lex.comLen]; simp
theorem comLen_out (d : Nat) (r : List UInt8) (hd : d ≠ 1) : Lex.comLen d (42 :: 41 :: r) = (Lex.comLen (d - 1) r).map (· + 2) := by
  rw [Lex.comLen]; simp [hd]
theorem comLen_last (r : List UInt8) : Lex.comLen 1 (42 :: 41 :: r) = some 2 := by
  rw [Lex.comLen]; simp
theorem comLen_next (d : Nat) (c : UInt8) (r : List UInt8) (h1 : Lib.hasPrefix (c :: r) [40, 42] = false) (h2 : Lib.hasPrefix (c :: r) [42, 41] = false) : Lex.comLen d (c :: r) = (Lex.comLen d r).map (· + 1) := by
  cases r with
  | nil => rw [Lex.comLen, Lex.comLen]; rfl
  | cons c' r =>
    unfold Lib.hasPrefix at h1 h2
    simp [List.isPrefixOf] at h1 h2
    rw [Lex.comLen, if_neg (by rintro ⟨rfl, rfl⟩; exact h1 rfl rfl), if_neg (by rintro ⟨rfl, rfl⟩; exact h2 rfl rfl)]
theorem map_map_add (o : Option Nat) (a b c : Nat) (h : a + b = c) : (o.map (· + a)).map (· + b) = o.map (· + c) := by
  cases o <;> simp <;> omega
theorem ComAt.deeper {s : ByteArray} {p i d : Nat} (h : ComAt s p i d) (hp : Lib.hasPrefix (rest s i) [40, 42] = true) : ComAt s p (i + 2) (d + 1) ∧ i + 2 ≤ s.size := by
  obtain ⟨r, hr⟩ := pre2 hp
  obtain ⟨h1, h2⟩ := rest_two hr
  obtain ⟨a, b, c, e⟩ := h
  refine ⟨⟨by omega, .inr (by omega), by omega, ?_⟩, h2⟩
  rw [e, show s.data.toList.drop i = rest s i from rfl, hr, comLen_deeper, show s.data.toList.drop (i + 2) = rest s (i + 2) from rfl, h1]
  exact map_map_add _ _ _ _ (by omega)
theorem ComAt.out {s : ByteArray} {p i d : Nat} (h : ComAt s p i d) (hn : Lib.hasPrefix (rest s i) [40, 42] = false) (hp : Lib.hasPrefix (rest s i) [42, 41] = true) (hd : 2 ≤ d) : ComAt s p (i + 2) (d - 1) ∧ i + 2 ≤ s.size := by
  obtain ⟨r, hr⟩ := pre2 hp
  obtain ⟨h1, h2⟩ := rest_two hr
  obtain ⟨a, b, c, e⟩ := h
  refine ⟨⟨by omega, .inr (by omega), by omega, ?_⟩, h2⟩
  rw [e, show s.data.toList.drop i = rest s i from rfl, hr, comLen_out _ _ (by omega), show s.data.toList.drop (i + 2) = rest s (i + 2) from rfl, h1]
  exact map_map_add _ _ _ _ (by omega)
theorem ComAt.last {s : ByteArray} {p i d : Nat} (h : ComAt s p i d) (hn : Lib.hasPrefix (rest s i) [40, 42] = false) (hp : Lib.hasPrefix (rest s i) [42, 41] = true) (hd : d = 1) : Lex.comLen 0 (rest s p) = some (i + 2 - p) ∧ i + 2 ≤ s.size := by
  obtain ⟨r, hr⟩ := pre2 hp
  obtain ⟨h1, h2⟩ := rest_two hr
  obtain ⟨a, b, c, e⟩ := h
  refine ⟨?_, h2⟩
  unfold rest
  rw [e, show s.data.toList.drop i = rest s i from rfl, hr, hd, comLen_last]
  simp
  omega
theorem ComAt.next {s : ByteArray} {p i d : Nat} (h : ComAt s p i d) (hi : i < s.size) (hd : 1 ≤ d) (hn : Lib.hasPrefix (rest s i) [40, 42] = false) (hp : Lib.hasPrefix (rest s i) [42, 41] = false) : ComAt s p (i + 1) d := by
  obtain ⟨a, b, c, e⟩ := h
  refine ⟨by omega, .inr hd, by omega, ?_⟩
  have hr := rest_step s i hi
  rw [hr] at hn hp
  rw [e, show s.data.toList.drop i = rest s i from rfl, hr, comLen_next _ _ _ hn hp]
  exact map_map_add _ _ _ _ (by omega)
theorem ComAt.none {s : ByteArray} {p i d : Nat} (h : ComAt s p i d) (hi : ¬ i < s.size) : Lex.comLen 0 (rest s p) = none := by
  obtain ⟨a, b, c, e⟩ := h
  unfold rest
  rw [e, show s.data.toList.drop i = rest s i from rfl, rest_end s i (by omega), Lex.comLen]
  rfl

theorem prefix_any (s q : ByteArray) (w : World) :
    Calls Tryz.prog 27 #[.string s, .string q] w fun e w' => e = .returned (.bool (Lib.hasPrefix s.data.toList q.data.toList)) ∧ w = w' := by
  refine (Tryz.strings_HasPrefix s q w).mono ?_
  rintro e w' ⟨rfl, rfl⟩
  exact ⟨rfl, rfl⟩
theorem prefix_rest (s q : ByteArray) (i : Nat) (b : Bool) (hb : Lib.hasPrefix (rest s i) q.data.toList = b) (w : World) :
    Calls Tryz.prog 27 #[.string (s.extract i s.size), .string q] w fun e w' => e = .returned (.bool b) ∧ w = w' := by
  refine (prefix_any _ q w).mono ?_
  rintro e w' ⟨rfl, rfl⟩
  rw [rest_data, hb]
  exact ⟨rfl, rfl⟩

/-- What comes of a comment at byte p. -/
def ComPost (B : Nat) (g : Nat) (s : ByteArray) (p : Nat) (wm sm : Nat) (ov cv : Value) (m : Nat) (ys : List Value) (w : World) (e : Ending) (w' : World) : Prop :=
  (∃ k, Lex.comLen 0 (rest s p) = some k ∧ e = .returned (.tuple #[]) ∧ p + k ≤ s.size ∧ TookC B w w' g s ((p : Int) + (k : Nat)) wm sm ov cv (m + 1) (ys ++ [.int .i64 (p : Int), .int .i64 ((p : Int) + (k : Nat))])) ∨
  (Lex.comLen 0 (rest s p) = none ∧ e = wrongAt p 10 ∧ Below w.heap.size w w')

theorem comPost_in {B g : Nat} {s : ByteArray} {p i : Nat} {wm sm : Nat} {ov cv : Value} {m : Nat} {ys : List Value} {w w' : World} (h : Lex.comLen 0 (rest s p) = some (i + 2 - p)) (hpi : p ≤ i) (hi : i + 2 ≤ s.size)
    (hT : TookC B w w' g s ((i : Int) + 2) wm sm ov cv (m + 1) (ys ++ [.int .i64 (p : Int), .int .i64 ((i : Int) + 2)])) : ComPost B g s p wm sm ov cv m ys w (.returned (.tuple #[])) w' := by
  refine .inl ⟨i + 2 - p, h, rfl, by omega, ?_⟩
  rw [show ((p : Int) + ((i + 2 - p : Nat) : Int)) = (i : Int) + 2 by omega]
  exact hT

set_option maxRecDepth 100000 in
set_option maxHeartbeats 1000000 in
theorem comment_any (B : Nat) (g wm sm : Nat) (s : ByteArray) (p : Nat) (ov cv : Value) (m : Nat) (ys : List Value) (w : World) (hs : s.size ≤ 100000) (hp : p ≤ s.size)
    (hb : ScBlk w g s p wm sm ov cv) (ho : w.ownsRow B 160 2 cv m ys) (hBg : B ≤ g) (hm : m ≤ 200000) (hbeg : Lib.hasPrefix (rest s p) [40, 42] = true) :
    Calls Tryz.prog 118 #[.pointer (some ⟨g, 0, none⟩)] w (ComPost B g s p wm sm ov cv m ys w) := by
  have h0 := hb.c0; have h1 := hb.c1; have h5 := hb.c5
  have f1 := hb.fr 1; have f5 := hb.fr 5
  have a1 : ∀ o, (w.alloc o).cell? ⟨g, 1, none⟩ = some (.int .i64 (p : Int)) := fun o => (hb.below (below_alloc (Below.refl _ _) o)).c1
  have a5 : ∀ o, (w.alloc o).cell? ⟨g, 5, none⟩ = some cv := fun o => (hb.below (below_alloc (Below.refl _ _) o)).c5
  have Hb := Lib.hid hb
  have Ho := Lib.hid ho
  have Hne := Lib.hid (own_ne ho hb (by decide))
  have Hbeg := Lib.hid hbeg
  have hst := ComAt.start s p
  obtain ⟨i0, hi, hza, hzb, hzc⟩ := info_parts info_pair
  have hlt8 := hb.lt
  have hnl : ∀ o : Obj, (w.alloc o).heap[w.heap.size]? = some o := fun o => Array.getElem?_push_size
  have Hnl := Lib.hid hnl
  clear hb ho hbeg hnl
  go_enter Tryz.func118, Tryz.ntmps118
  go_wp2_with fail
  go_loop [2, 3] (fun t u => ∃ d i : Nat, i ≤ s.size ∧ t = .int .i64 (d : Int) ∧ u = .int .i64 (i : Int) ∧ ComAt s p i d) (fun t u => s.size - (intOf u).toNat)
  case atStart => exact ⟨0, p, hp, rfl, rfl, hst⟩
  case round =>
    obtain ⟨d, i, hk, rfl, rfl, hc⟩ := hrel
    have hdi : d ≤ i := hc.2.2.1
    by_cases hlt : i < s.size
    · cases hp1 : Lib.hasPrefix (rest s i) [40, 42] with
      | true =>
        have hq := hc.deeper hp1
        have hq2 := hq.2
        have hpf := Lib.hid (prefix_rest s ⟨#[40, 42]⟩ i true hp1)
        clear hp1
        go_wp2_with (go_at_call 27; refine (hpf _).mono ?_; rintro e w' ⟨rfl, rfl⟩)
        go_round
        case rel => exact ⟨d + 1, i + 2, hq2, by go_num, by go_num, hq.1⟩
        case measure => simp [intOf]; omega
      | false =>
        have hd1 : 1 ≤ d := by
          rcases hc.2.1 with ⟨rfl, rfl⟩ | h
          · rw [Hbeg] at hp1; cases hp1
          · exact h
        have hpf := Lib.hid (prefix_rest s ⟨#[40, 42]⟩ i false hp1)
        cases hp2 : Lib.hasPrefix (rest s i) [42, 41] with
        | true =>
          have hpg := Lib.hid (prefix_rest s ⟨#[42, 41]⟩ i true hp2)
          by_cases hd : d = 1
          · have hq := hc.last hp1 hp2 hd
            have hq2 := hq.2
            have Hq := Lib.hid hq.1
            have hpi : p ≤ i := hc.1
            subst hd
            clear hp1 hp2 hq
            go_wp2_with (go_at_call 27; first | (refine (hpf _).mono ?_; rintro e w' ⟨rfl, rfl⟩) | (refine (hpg _).mono ?_; rintro e w' ⟨rfl, rfl⟩))
            go_region_law (refine step_append_lies _ rfl (.tmp 44) (.tmp 51) 124 rfl B 160 i0 _ 2 16 Tryz.underlying124 hi hza hzb hzc rfl (by decide) cv m ys ?_ ?_ ⟨w.heap.size, 0, none⟩ 1 1 [.int .i64 (p : Int), .int .i64 ((i : Int) + 2)] ?_ rfl ?_ ?_ ?_ ?_ ?_ ?_ _ rfl ?_; rfl; (exact own_below Ho (by repeat (first | exact Below.refl _ _ | apply below_alloc | apply Below.drew))); rfl; (exact World.news_of_block (Hnl _)); (intro u hu; simp at hu; rcases hu with rfl | rfl <;> rfl); decide; (unfold maxLen; omega); omega; (simp; omega); (intro gg cap w1 hown1 hgrow1 hat1 hlt1; have hB2 := Lib.hid ((below_alloc (Below.refl w.heap.size w) (Obj.cells #[Value.int IntKind.i64 (p : Int), Value.int IntKind.i64 ((i : Int) + 2)] 160)).drew); have hb2 := Lib.hid (Hb.below hB2); have hb3 := Lib.hid (hb2.move (hgrow1.block g hb2.lt (Ne.symm Hne))); have c1 := hb3.c1; have c5 := hb3.c5; have g1 := hb3.fr 1; have g5 := hb3.fr 5; have Hgrow := Lib.hid hgrow1; clear hgrow1 hat1))
            all_goals
              go_wp2_with fail
              refine bodyPost_ret (results_none rfl _ _ _) rfl ?_
              exact comPost_in Hq hpi hq2 (tookC_close hb3 hown1 (took_chg (Chg.of_below (Below.refl _ _) _) hB2 Hgrow))
          · have hq := hc.out hp1 hp2 (by omega)
            have hq2 := hq.2
            have hz : (((d : Int) - 1) == 0) = false := beq_eq_false_iff_ne.2 (by omega)
            have ez : ((d - 1 : Nat) : Int) = (d : Int) - 1 := by omega
            have Hez := Lib.hid ez
            clear hp1 hp2 ez
            go_wp2_with (go_at_call 27; first | (refine (hpf _).mono ?_; rintro e w' ⟨rfl, rfl⟩) | (refine (hpg _).mono ?_; rintro e w' ⟨rfl, rfl⟩))
            go_round
            case rel => exact ⟨d - 1, i + 2, hq2, by rw [Hez], by go_num, hq.1⟩
            case measure => simp [intOf]; omega
        | false =>
          have hq := hc.next hlt hd1 hp1 hp2
          have hpg := Lib.hid (prefix_rest s ⟨#[42, 41]⟩ i false hp2)
          clear hp1 hp2
          go_wp2_with (go_at_call 27; first | (refine (hpf _).mono ?_; rintro e w' ⟨rfl, rfl⟩) | (refine (hpg _).mono ?_; rintro e w' ⟨rfl, rfl⟩))
          go_round
          case rel => exact ⟨d, i + 1, by omega, rfl, by go_num, hq⟩
          case measure => simp [intOf]; omega
    · have hq := Lib.hid (hc.none hlt)
      go_wp2_with (go_at_call 96; refine (fail_any g wm sm s p ov cv _ Hb).mono ?_; rintro e w' ⟨rfl, rfl⟩)
      exact ⟨rfl, .inr ⟨hq, rfl, Below.refl _ _⟩⟩
end Go.Proofs.YtjcocblohiglbaaGreatDoor
/- The walk of (*scanner).mark: a comment, or the longest sign that begins with no symbol. -/
namespace Go.Proofs.YtjcocblohiglbaaGreatDoor
open Go.RowKit
set_option linter.unusedVariables false
set_option linter.unusedSimpArgs false

theorem quiet_mine {P : Program} {f : FuncId} {args : Array Value} {w : World} {n : Nat} {v : Value}
    (h : Calls P f args (w.drewN n) fun e w' => e = .returned v ∧ w.drewN n = w') : Calls P f args (w.drewN n) fun e w'' => e = .returned v ∧ ∃ m, w'' = w.drewN m :=
  h.mono fun _ _ ⟨he, hm⟩ => ⟨he, n, hm.symm⟩

theorem slice_at (s : ByteArray) (p n : Nat) (h : p + n ≤ s.size) (W : World) :
    (Instr.slice 9 (.string s) (some (.int .i64 (p : Int))) (some (.int .i64 ((p : Int) + (n : Int)))) none).run Tryz.prog W = .ok (.string (s.extract p (p + n))) W := by
  have := run_slice_string (P := Tryz.prog) W 9 s .i64 .i64 (p : Int) ((p : Int) + (n : Int)) Tryz.underlying9 (by omega) (by omega) (by omega)
  rw [this, Int.toNat_natCast, show ((p : Int) + (n : Int)).toNat = p + n by omega]

theorem tookC_drewN {B : Nat} {w w' : World} {n : Nat} {g : Nat} {s : ByteArray} {e : Int} {wm sm : Nat} {ov cv : Value} {m : Nat} {ys : List Value} (h : TookC B (w.drewN n) w' g s e wm sm ov cv m ys) : TookC B w w' g s e wm sm ov cv m ys := by
  obtain ⟨ov', h1, h2, h3⟩ := h
  exact ⟨ov', h1, h2, ⟨h3.os, h3.tape, h3.output, h3.size, h3.block⟩⟩
theorem below_drewN {w w' : World} {n : Nat} (h : Below (w.drewN n).heap.size (w.drewN n) w') : Below w.heap.size w w' := ⟨h.os, h.tape, h.output, h.size, h.block⟩
theorem below_drewN' (w : World) (n : Nat) : Below w.heap.size w (w.drewN n) := ⟨rfl, rfl, rfl, Nat.le_refl _, fun _ _ => rfl⟩
theorem comPost_drewN {B g : Nat} {s : ByteArray} {p : Nat} {wm sm : Nat} {ov cv : Value} {m : Nat} {ys : List Value} {w : World} {n : Nat} {e : Ending} {w' : World} (h : ComPost B g s p wm sm ov cv m ys (w.drewN n) e w') : ComPost B g s p wm sm ov cv m ys w e w' := by
  rcases h with ⟨k, h1, h2, h3, h4⟩ | ⟨h1, h2, h3⟩
  · exact .inl ⟨k, h1, h2, h3, tookC_drewN h4⟩
  · exact .inr ⟨h1, h2, below_drewN h3⟩

set_option maxRecDepth 100000 in
set_option maxHeartbeats 1000000 in
theorem mark_comment (B : Nat) (g wm sm : Nat) (s : ByteArray) (p : Nat) (ov cv : Value) (m : Nat) (ys : List Value) (w : World) (hs : s.size ≤ 100000) (hp : p ≤ s.size)
    (hb : ScBlk w g s p wm sm ov cv) (ho : w.ownsRow B 160 2 cv m ys) (hBg : B ≤ g) (hm : m ≤ 200000) (hbeg : Lib.hasPrefix (rest s p) [40, 42] = true) :
    Calls Tryz.prog 95 #[.pointer (some ⟨g, 0, none⟩)] w (ComPost B g s p wm sm ov cv m ys w) := by
  have h0 := hb.c0; have h1 := hb.c1
  have Hb := Lib.hid hb
  have Ho := Lib.hid ho
  have Hbeg := Lib.hid hbeg
  clear hb ho hbeg
  go_enter Tryz.func95, Tryz.ntmps95
  go_wp2_with fail
  go_quiet ((go_at_call 27; exact quiet_mine (prefix_rest s ⟨#[40, 42]⟩ p true Hbeg _)))
  go_wp2_with fail
  refine (comment_any B g wm sm s p ov cv m ys _ hs hp (Hb.drewN nq) (own_drewN Ho nq) hBg hm Hbeg).mono ?_
  rintro e w' (⟨k, hk, rfl, hle, hT⟩ | ⟨hk, rfl, hB⟩)
  · have Hfin : Hid (ComPost B g s p wm sm ov cv m ys w (.returned (.tuple #[])) w') := comPost_drewN (.inl ⟨k, hk, rfl, hle, hT⟩)
    clear hk hle hT
    go_wp2_with fail
    refine bodyPost_ret (results_none rfl _ _ _) rfl ?_
    exact Hfin
  · have Hfin : Hid (ComPost B g s p wm sm ov cv m ys w (wrongAt p 10) w') := comPost_drewN (.inr ⟨hk, rfl, hB⟩)
    clear hk hB
    go_wp2_with fail
    exact ⟨rfl, Hfin⟩

/-- No sign of more than n bytes begins here. -/
def SignOk (s : ByteArray) (p n : Nat) : Prop := p + n ≤ s.size ∧ Lex.signsL.contains (s.extract p (p + n)).data.toList = true
def NoSign (s : ByteArray) (p n : Nat) : Prop := ∀ k, n < k → k ≤ 3 → ¬ SignOk s p k
theorem NoSign.lower {s : ByteArray} {p n : Nat} (h : NoSign s p n) (hn : ¬ SignOk s p n) : NoSign s p (n - 1) := fun k h1 h2 => by
  by_cases e : k = n
  · subst e; exact hn
  · exact h k (by omega) h2
theorem back_one {n : Nat} (h : ¬ n = 0) : Value.int .i64 ((n : Int) - 1) = Value.int .i64 ((n - 1 : Nat) : Int) := by rw [show ((n - 1 : Nat) : Int) = (n : Int) - 1 by omega]
/-- What comes of a mark at byte p that begins no comment. -/
def MarkPost (B : Nat) (g : Nat) (s : ByteArray) (p : Nat) (wm sm : Nat) (ov cv : Value) (m : Nat) (xs : List Value) (w : World) (e : Ending) (w' : World) : Prop :=
  (∃ k, 1 ≤ k ∧ k ≤ 3 ∧ SignOk s p k ∧ NoSign s p k ∧ e = .returned (.tuple #[]) ∧ Took B w w' g s ((p : Int) + (k : Nat)) wm sm ov cv (m + 1) (xs ++ [.int .i64 5, .int .i64 0, .string (s.extract p (p + k)), .int .i64 (p : Int), .int .i64 ((p : Int) + (k : Nat))])) ∨
  (NoSign s p 0 ∧ e = wrongAt p 10 ∧ Below w.heap.size w w')

set_option maxRecDepth 100000 in
set_option maxHeartbeats 1000000 in
theorem mark_sign (B : Nat) (g wm sm : Nat) (s : ByteArray) (p : Nat) (ov cv : Value) (m : Nat) (xs : List Value) (w : World) (hs : s.size ≤ 100000) (hp : p ≤ s.size)
    (hb : ScBlk w g s p wm sm ov cv) (ho : w.ownsRow B 84 5 ov m xs) (hBg : B ≤ g) (hm : m ≤ 200000) (hset : HasSet w sm Lex.signsL) (hbeg : Lib.hasPrefix (rest s p) [40, 42] = false) :
    Calls Tryz.prog 95 #[.pointer (some ⟨g, 0, none⟩)] w (MarkPost B g s p wm sm ov cv m xs w) := by
  have h0 := hb.c0; have h1 := hb.c1; have h3 := hb.c3
  have Hb := Lib.hid hb
  have Ho := Lib.hid ho
  have Hset := Lib.hid hset
  have Hbeg := Lib.hid hbeg
  have hno : NoSign s p 3 := fun k h1 h2 => by omega
  clear hb ho hbeg hset
  go_enter Tryz.func95, Tryz.ntmps95
  go_wp2_with fail
  go_quiet ((go_at_call 27; exact quiet_mine (prefix_rest s ⟨#[40, 42]⟩ p false Hbeg _)))
  go_wp2_with fail
  go_loopw [2] (fun t wr => ∃ n q : Nat, n ≤ 3 ∧ t = .int .i64 (n : Int) ∧ wr = w.drewN q ∧ NoSign s p n) (fun t _ => (intOf t).toNat)
  case atStart => exact ⟨3, _, Nat.le_refl _, rfl, rfl, hno⟩
  case round =>
    obtain ⟨n, q, hn, rfl, rfl, hno⟩ := hrel
    have hlj := Lib.hid (fun (hsz : p + n ≤ s.size) => Hset.looks (s.extract p (p + n)) (by rw [ByteArray.size_extract]; unfold maxLen; omega))
    have hlk := Lib.hid (fun (hsz : p + n ≤ s.size) => (Hset.move (W := w.drewN q) rfl).looks (s.extract p (p + n)) (by rw [ByteArray.size_extract]; unfold maxLen; omega))
    by_cases hn0 : n = 0
    · subst hn0
      go_wp2_with (go_at_call 96; refine (fail_any g wm sm s p ov cv _ (Hb.drewN q)).mono ?_; rintro e w' ⟨rfl, rfl⟩)
      exact ⟨rfl, .inr ⟨hno, rfl, below_drewN' _ _⟩⟩
    · have hn1 : (0 : Int) < (n : Int) := by omega
      have z1 := Lib.hid (IntWalk.i64_in ((p : Int) + (n : Int)) (by omega))
      have z2 : (0 : Int) ≤ (p : Int) + (n : Int) := by omega
      have z3 := Lib.hid (show ((p : Int) + (n : Int)).toNat = p + n by omega)
      by_cases hle : (p : Int) + (n : Int) ≤ (s.size : Int)
      · have hleb : decide ((p : Int) + (n : Int) ≤ (s.size : Int)) = true := decide_eq_true hle
        have hle2 : p + n ≤ s.size := by omega
        have hsl := slice_at s p n hle2
        have hpn : (p : Int) ≤ (p : Int) + (n : Int) := by omega
        cases hin : Lex.signsL.contains (s.extract p (p + n)).data.toList with
        | true =>
          have hl := hlk (by omega) true hin
          have hl2 := hlj (by omega) true hin
          have hfin : Hid (SignOk s p n) := ⟨by omega, hin⟩
          clear hin
          have z1' := z1.out
          have z3' := z3.out
          go_wp2_with fail
          go_quiet (fail)
          clear z1' z3'
          go_wp2_with (go_at_call 114; refine (take_text B 5 0 p (p + n) (by decide) g wm sm s ov cv m xs _ (by omega) (by omega) (by omega) (by omega) (Hb.drewN _) (own_drewN Ho _) hBg hm).mono ?_; rintro e w' ⟨rfl, hT⟩)
          refine bodyPost_ret (results_none rfl _ _ _) rfl ?_
          exact .inl ⟨n, by omega, hn, hfin, hno, rfl, (took_drewN hT).cast⟩
        | false =>
          have hl := hlk (by omega) false hin
          have hl2 := hlj (by omega) false hin
          have hfin : Hid (¬ SignOk s p n) := fun h => by rw [h.2] at hin; cases hin
          clear hin
          have z1' := z1.out
          have z3' := z3.out
          go_wp2_with fail
          go_quiet (fail)
          clear z1' z3'
          go_wp2_with fail
          exact ⟨⟨n - 1, _, by omega, back_one hn0, rfl, hno.lower hfin⟩, by simp [intOf]; omega⟩
      · have hleb : decide ((p : Int) + (n : Int) ≤ (s.size : Int)) = false := decide_eq_false hle
        have hfin : Hid (¬ SignOk s p n) := fun h => by have := h.1; omega
        have z1' := z1.out
        have z3' := z3.out
        go_wp2_with fail
        go_quiet (fail)
        clear z1' z3'
        go_wp2_with fail
        exact ⟨⟨n - 1, _, by omega, back_one hn0, rfl, hno.lower hfin⟩, by simp [intOf]; omega⟩
end Go.Proofs.YtjcocblohiglbaaGreatDoor
/- The walk of newScanner: two sets of strings, and the scanner's block. -/
namespace Go.Proofs.YtjcocblohiglbaaGreatDoor
open Go.RowKit Go.Maps
set_option linter.unusedVariables false
set_option linter.unusedSimpArgs false

def strCells (l : List Lex.Bytes) : Array Value := (l.map fun b => Value.string ⟨b.toArray⟩).toArray
theorem ascii_of (s : ByteArray) (h : s.data.toList.all (fun c => decide (c.toNat < 128)) = true) : ∀ (j : Nat) b, s.data.toList[j]? = some b → b.toNat < 128 := fun j b hj => by
  have := List.all_eq_true.1 h b (List.mem_of_getElem? hj)
  simpa using this
theorem fields_as (w : World) (hG : GL w) (s : ByteArray) (l : List Lex.Bytes) (h1 : s.size < 4294967281) (h2 : s.data.toList.all (fun c => decide (c.toNat < 128)) = true) (h3 : Lib.fields s.data.toList = l) :
    Calls Tryz.prog 90 #[.string s] w fun e w' => e = .returned (.slice (some ⟨w.heap.size, 0, none⟩) l.length l.length) ∧ w.alloc (.cells (strCells l) 9) = w' := by
  refine (Tryz.strings_Fields s w h1 (ascii_of s h2) hG.sp).mono ?_
  rintro e w' ⟨rfl, rfl⟩
  rw [h3]
  exact ⟨rfl, rfl⟩
set_option maxRecDepth 100000 in
set_option maxHeartbeats 1000000 in
theorem words_any (w : World) (hG : GL w) :
    Calls Tryz.prog 81 #[] w fun e w' => e = .returned (.slice (some ⟨w.heap.size, 0, none⟩) 37 37) ∧ w.alloc (.cells (strCells Lex.wordsL) 9) = w' := by
  have Hc := Lib.hid (fields_as w hG)
  go_enter Tryz.func81, Tryz.ntmps81
  go_wp2_with fail
  refine (Hc _ Lex.wordsL (by decide +kernel) (by decide +kernel) (by decide +kernel)).mono ?_
  rintro e w' ⟨rfl, rfl⟩
  go_wp2_with fail
  go_ret
  exact ⟨rfl, rfl⟩
set_option maxRecDepth 100000 in
set_option maxHeartbeats 1000000 in
theorem signs_any (w : World) (hG : GL w) :
    Calls Tryz.prog 82 #[] w fun e w' => e = .returned (.slice (some ⟨w.heap.size, 0, none⟩) 24 24) ∧ w.alloc (.cells (strCells Lex.signsL) 9) = w' := by
  have Hc := Lib.hid (fields_as w hG)
  go_enter Tryz.func82, Tryz.ntmps82
  go_wp2_with fail
  refine (Hc _ Lex.signsL (by decide +kernel) (by decide +kernel) (by decide +kernel)).mono ?_
  rintro e w' ⟨rfl, rfl⟩
  go_wp2_with fail
  go_ret
  exact ⟨rfl, rfl⟩

abbrev yes : DataW Unit := .lit (.bool true)
def keys (l : List Lex.Bytes) (k : Nat) : List Lit := (l.take k).map Lit.string
theorem keys_step (l : List Lex.Bytes) (k : Nat) (h : k < l.length) : setOf yes (keys l (k + 1)) = (setOf yes (keys l k)).put (.string (l.getD k [])) yes := by
  unfold keys
  rw [List.take_succ_eq_append_getElem h, List.map_append, List.map_cons, List.map_nil, setOf_snoc]
  simp [List.getD_eq_getElem?_getD, List.getElem?_eq_getElem h]
theorem atKey_fold (s : List UInt8) : ∀ (acc : List Lex.Bytes) (m : DataW Unit), IsMap m → ((acc.map Lit.string).foldl (fun m x => m.put x yes) m).atKey (.string s) (.lit (.bool false)) = if acc.contains s then yes else m.atKey (.string s) (.lit (.bool false))
  | [], m, _ => by simp
  | x :: r, m, hm => by
    rw [List.map_cons, List.foldl_cons, atKey_fold s r _ (hm.put _ _)]
    by_cases h : r.contains s = true
    · rw [if_pos h, if_pos (by simp at h; simp [h])]
    · rw [if_neg h]
      by_cases e : s = x
      · subst e
        rw [atKey_put_same hm (show WideAt.IsKeyLit (.string s) from trivial), if_pos (by simp)]
      · rw [atKey_put_other (by intro h'; injection h' with h'; exact e h'), if_neg (by simp at h; simp [h, e])]
theorem hasSet_of {w : World} {b : Nat} {l : List Lex.Bytes} (h : w.ownsMap Tryz.prog 9 (plainElem Tryz.prog 4) b l.length (setOf yes (keys l l.length))) : HasSet w b l := by
  refine ⟨_, _, h, fun s hs => ?_⟩
  unfold keys setOf
  rw [List.take_length, atKey_fold _ _ _ isMap_empty]
  by_cases e : l.contains s.data.toList = true
  · rw [if_pos e, e]
  · rw [if_neg e, show l.contains s.data.toList = false by simpa using e]
    rfl
theorem map_ne {w : World} {b g : Nat} {n : Nat} {D : DataW Unit} (h : w.ownsMap Tryz.prog 9 (plainElem Tryz.prog 4) b n D) {cs : Array Value} {t : Nat} {f : Nat × Nat} (hg : w.heap[g]? = some (.cells cs t f)) : g ≠ b := by
  rintro rfl
  obtain ⟨es, clock, he, _⟩ := h
  rw [he] at hg
  cases hg

/-- In the middle of newScanner: k words are in the set wm; what else there is has not turned. -/
structure NewInv (w wr : World) (g wm sm wb : Nat) (s : ByteArray) (bm : Nat) (l : List Lex.Bytes) (k : Nat) (other : World → Prop) : Prop where
  blk : ScBlk wr g s 0 wm sm (.slice none 0 0) (.slice none 0 0)
  own : wr.ownsMap Tryz.prog 9 (plainElem Tryz.prog 4) bm k (setOf yes (keys l k))
  row : wr.heap[wb]? = some (.cells (strCells l) 9 (0, 0))
  bel : Below w.heap.size w wr
  bm : w.heap.size ≤ bm
  oth : other wr
theorem NewInv.step {w wr w1 : World} {g wm sm wb : Nat} {s : ByteArray} {bm : Nat} {l : List Lex.Bytes} {k : Nat} {other : World → Prop} (h : NewInv w wr g wm sm wb s bm l k other) (hk : k < l.length)
    (hoth : other wr → wr.grownBy w1 (some bm) → other w1)
    (h1 : w1.ownsMap Tryz.prog 9 (plainElem Tryz.prog 4) bm (k + 1) ((setOf yes (keys l k)).put (.string (l.getD k [])) yes)) (hg : wr.grownBy w1 (some bm)) : NewInv w w1 g wm sm wb s bm l (k + 1) other := by
  have e1 : g ≠ bm := map_ne h.own h.blk
  have e2 : wb ≠ bm := map_ne h.own h.row
  have l2 : wb < wr.heap.size := (Array.getElem?_eq_some_iff.1 h.row).1
  refine ⟨h.blk.move (hg.block g h.blk.lt (by simpa using e1)), by rw [keys_step l k hk]; exact h1, (hg.block wb l2 (by simpa using e2)).trans h.row, h.bel.grown hg h.bel.size (fun k hk => by cases hk; exact h.bm), h.bm, hoth h.oth hg⟩
theorem NewInv.cell {w wr : World} {g wm sm wb : Nat} {s : ByteArray} {bm : Nat} {l : List Lex.Bytes} {k : Nat} {other : World → Prop} (h : NewInv w wr g wm sm wb s bm l k other) (hk : k < l.length) :
    wr.cell? ⟨wb, k, none⟩ = some (.string ⟨(l.getD k []).toArray⟩) := by
  rw [cell_of_row wr wb k _ _ _ h.row]
  unfold strCells
  simp [List.getD_eq_getElem?_getD, List.getElem?_eq_getElem hk]
theorem key_str (b : Lex.Bytes) (h : b.length ≤ maxLen) : keyOf Tryz.prog 9 (.string ⟨b.toArray⟩) = some (.string b) := by
  have := Go.WideMaps.keyOf_string_mk (P := Tryz.prog) Tryz.underlying9 (s := ⟨b.toArray⟩) (by show b.toArray.size ≤ maxLen; simpa using h)
  simpa using this
theorem short_words : ∀ k, (Lex.wordsL.getD k []).length ≤ maxLen := fun k => by
  by_cases h : k < Lex.wordsL.length
  · have : ∀ b ∈ Lex.wordsL, b.length ≤ 100 := by decide
    have h2 := this _ (List.getElem_mem h)
    rw [List.getD_eq_getElem?_getD, List.getElem?_eq_getElem h]
    unfold maxLen
    simp
    omega
  · rw [List.getD_eq_getElem?_getD, List.getElem?_eq_none (by omega)]
    unfold maxLen
    simp
theorem short_signs : ∀ k, (Lex.signsL.getD k []).length ≤ maxLen := fun k => by
  by_cases h : k < Lex.signsL.length
  · have : ∀ b ∈ Lex.signsL, b.length ≤ 100 := by decide
    have h2 := this _ (List.getElem_mem h)
    rw [List.getD_eq_getElem?_getD, List.getElem?_eq_getElem h]
    unfold maxLen
    simp
    omega
  · rw [List.getD_eq_getElem?_getD, List.getElem?_eq_none (by omega)]
    unfold maxLen
    simp

/-- What newScanner leaves. -/
def NewPost (s : ByteArray) (w : World) (e : Ending) (w' : World) : Prop :=
  ∃ g wm sm : Nat, e = .returned (.pointer (some ⟨g, 0, none⟩)) ∧ ScBlk w' g s 0 wm sm (.slice none 0 0) (.slice none 0 0) ∧ HasSet w' wm Lex.wordsL ∧ HasSet w' sm Lex.signsL ∧ w.heap.size ≤ g ∧ w.heap.size ≤ wm ∧ w.heap.size ≤ sm ∧ Below w.heap.size w w'

theorem new_start (w : World) (s : ByteArray) (W1 : World) (hW : W1 = (((w.alloc (Obj.map #[] 0)).alloc (Obj.map #[] 0)).alloc (Obj.cells #[Value.string s, Value.int IntKind.i64 0, Value.map (some w.heap.size), Value.map (some (w.heap.size + 1)), Value.slice none 0 0, Value.slice none 0 0] 126)).alloc (Obj.cells (strCells Lex.wordsL) 9)) :
    NewInv w W1 (w.heap.size + 1 + 1) w.heap.size (w.heap.size + 1) (w.heap.size + 1 + 1 + 1) s w.heap.size Lex.wordsL 0 (fun W => W.ownsMap Tryz.prog 9 (plainElem Tryz.prog 4) (w.heap.size + 1) 0 (.map [] : DataW Unit)) := by
  have s1 : ∀ (v : World) (o : Obj), (v.alloc o).heap.size = v.heap.size + 1 := fun v o => Array.size_push _
  have m1 := World.ownsMap_made (H := Unit) w Tryz.prog 9 (plainElem Tryz.prog 4)
  have m2 := World.ownsMap_made (H := Unit) (w.alloc (Obj.map #[] 0)) Tryz.prog 9 (plainElem Tryz.prog 4)
  rw [s1] at m2
  have b3 : ((((w.alloc (Obj.map #[] 0)).alloc (Obj.map #[] 0)).alloc (Obj.cells #[Value.string s, Value.int IntKind.i64 0, Value.map (some w.heap.size), Value.map (some (w.heap.size + 1)), Value.slice none 0 0, Value.slice none 0 0] 126)).heap[w.heap.size + 1 + 1]?) = some (.cells #[Value.string s, Value.int IntKind.i64 0, Value.map (some w.heap.size), Value.map (some (w.heap.size + 1)), Value.slice none 0 0, Value.slice none 0 0] 126 (0, 0)) := by
    have := Array.getElem?_push_size (xs := ((w.alloc (Obj.map #[] 0)).alloc (Obj.map #[] 0)).heap) (x := (.cells #[Value.string s, Value.int IntKind.i64 0, Value.map (some w.heap.size), Value.map (some (w.heap.size + 1)), Value.slice none 0 0, Value.slice none 0 0] 126 (0, 0) : Obj))
    rw [s1, s1] at this
    exact this
  have b4 : W1.heap[w.heap.size + 1 + 1 + 1]? = some (.cells (strCells Lex.wordsL) 9 (0, 0)) := by
    have := Array.getElem?_push_size (xs := (((w.alloc (Obj.map #[] 0)).alloc (Obj.map #[] 0)).alloc (Obj.cells #[Value.string s, Value.int IntKind.i64 0, Value.map (some w.heap.size), Value.map (some (w.heap.size + 1)), Value.slice none 0 0, Value.slice none 0 0] 126)).heap) (x := (.cells (strCells Lex.wordsL) 9 (0, 0) : Obj))
    rw [s1, s1, s1] at this
    rw [hW]
    exact this
  refine ⟨?_, ?_, b4, ?_, Nat.le_refl _, ?_⟩
  · rw [hW]
    exact ScBlk.below (w := (((w.alloc (Obj.map #[] 0)).alloc (Obj.map #[] 0)).alloc (Obj.cells #[Value.string s, Value.int IntKind.i64 0, Value.map (some w.heap.size), Value.map (some (w.heap.size + 1)), Value.slice none 0 0, Value.slice none 0 0] 126))) b3 (below_alloc (Below.refl _ _) _)
  · rw [hW]
    exact ((m1.alloc _).alloc _).alloc _
  · rw [hW]
    exact below_alloc (below_alloc (below_alloc (below_alloc (Below.refl _ _) _) _) _) _
  · rw [hW]
    exact (m2.alloc _).alloc _

theorem new_second {w wr : World} {g sm wb : Nat} {s : ByteArray} (h : NewInv w wr g w.heap.size sm wb s w.heap.size Lex.wordsL 37 (fun W => W.ownsMap Tryz.prog 9 (plainElem Tryz.prog 4) sm 0 (.map [] : DataW Unit))) (ism : w.heap.size ≤ sm) :
    NewInv w (wr.alloc (Obj.cells (strCells Lex.signsL) 9)) g w.heap.size sm wr.heap.size s sm Lex.signsL 0 (fun W => HasSet W w.heap.size Lex.wordsL) := by
  have hb : Below wr.heap.size wr (wr.alloc (Obj.cells (strCells Lex.signsL) 9)) := below_alloc (Below.refl _ _) _
  refine ⟨h.blk.below hb, h.oth.alloc _, ?_, h.bel.trans (hb.mono h.bel.size), ism, (hasSet_of h.own).move (hb.block _ h.own.lt)⟩
  exact Array.getElem?_push_size (xs := wr.heap) (x := (.cells (strCells Lex.signsL) 9 (0, 0) : Obj))

set_option maxRecDepth 100000 in
set_option maxHeartbeats 1000000 in
theorem newScanner_any (s : ByteArray) (w : World) (hG : GL w) :
    Calls Tryz.prog 71 #[.string s] w (NewPost s w) := by
  have HG := Lib.hid hG
  clear hG
  have hmm := @run_makeMap Tryz.prog
  go_enter Tryz.func71, Tryz.ntmps71
  go_wp2_with fail
  refine (words_any _ (HG.below (by repeat (first | exact Below.refl _ _ | apply below_alloc)))).mono ?_
  rintro e w' ⟨rfl, rfl⟩
  go_wp2_with fail
  generalize hW : (((w.alloc (Obj.map #[] 0)).alloc (Obj.map #[] 0)).alloc (Obj.cells #[Value.string s, Value.int IntKind.i64 0, Value.map (some w.heap.size), Value.map (some (w.heap.size + 1)), Value.slice none 0 0, Value.slice none 0 0] 126)).alloc (Obj.cells (strCells Lex.wordsL) 9) = W1
  have hI : NewInv w W1 (w.heap.size + 1 + 1) w.heap.size (w.heap.size + 1) (w.heap.size + 1 + 1 + 1) s w.heap.size Lex.wordsL 0 (fun W => W.ownsMap Tryz.prog 9 (plainElem Tryz.prog 4) (w.heap.size + 1) 0 (.map [] : DataW Unit)) := new_start w s W1 hW.symm
  have ig : w.heap.size ≤ w.heap.size + 1 + 1 := by omega
  have ism : w.heap.size ≤ w.heap.size + 1 := by omega
  have ine : ¬ w.heap.size + 1 = w.heap.size := by omega
  clear hW
  generalize w.heap.size + 1 + 1 + 1 = wb at *
  generalize w.heap.size + 1 + 1 = g at *
  generalize w.heap.size + 1 = sm at *
  have Ine := Lib.hid ine
  clear ine
  go_loopw [15] (fun t wr => ∃ k : Nat, k ≤ 37 ∧ t = .int .i64 (k : Int) ∧ NewInv w wr g w.heap.size sm wb s w.heap.size Lex.wordsL k (fun W => W.ownsMap Tryz.prog 9 (plainElem Tryz.prog 4) sm 0 (.map [] : DataW Unit))) (fun t _ => 37 - (intOf t).toNat)
  case atStart => exact ⟨0, by omega, rfl, hI⟩
  case round =>
    obtain ⟨k, hk, rfl, hI⟩ := hrel
    by_cases hlt : k < 37
    · have hc := hI.cell (show k < Lex.wordsL.length from hlt)
      have c2 := hI.blk.c2
      have hkey := key_str (Lex.wordsL.getD k []) (short_words k)
      generalize hb : Lex.wordsL.getD k [] = bb at hc hkey
      have Hb := Lib.hid hb
      have Hkey := Lib.hid hkey
      clear hb hkey
      go_wp2_with (at_mapUpdate; refine wpList_mapUpdate_own _ rfl _ _ _ 123 rfl 9 4 keyed Tryz.underlying123 (plainElem Tryz.prog 4) w.heap.size k _ rfl hI.own (by unfold maxLen; omega) _ _ _ rfl rfl Hkey yes [] (plainElem_bool Tryz.underlying4 true) ?_; intro w1 hown1 hgrow1)
      have hI2 := hI.step (show k < Lex.wordsL.length from hlt) (fun h hg => h.kept hg (fun e => Ine.out (Option.some.inj e))) (by rw [Hb]; exact hown1) hgrow1
      clear hown1 hgrow1
      go_wp2_with fail
      go_roundw
      case rel => exact ⟨k + 1, by omega, by go_num, hI2⟩
      case measure => simp [intOf]; omega
    · obtain rfl : k = 37 := by omega
      have hg0 := HG.below hI.bel
      go_wp2_with fail
      refine (signs_any _ hg0).mono ?_
      rintro e w' ⟨rfl, rfl⟩
      go_wp2_with fail
      have hJ := new_second hI ism
      clear hI hg0
      generalize wr.heap.size = wc at *
      generalize wr.alloc (Obj.cells (strCells Lex.signsL) 9) = W2 at *
      go_loopw [27] (fun t wr => ∃ k : Nat, k ≤ 24 ∧ t = .int .i64 (k : Int) ∧ NewInv w wr g w.heap.size sm wc s sm Lex.signsL k (fun W => HasSet W w.heap.size Lex.wordsL)) (fun t _ => 24 - (intOf t).toNat)
      case atStart => exact ⟨0, by omega, rfl, hJ⟩
      case round =>
        obtain ⟨k, hk, rfl, hI⟩ := hrel
        by_cases hlt : k < 24
        · have hc := hI.cell (show k < Lex.signsL.length from hlt)
          have c3 := hI.blk.c3
          have hkey := key_str (Lex.signsL.getD k []) (short_signs k)
          generalize hb : Lex.signsL.getD k [] = bb at hc hkey
          have Hb := Lib.hid hb
          have Hkey := Lib.hid hkey
          clear hb hkey
          go_wp2_with (at_mapUpdate; refine wpList_mapUpdate_own _ rfl _ _ _ 123 rfl 9 4 keyed Tryz.underlying123 (plainElem Tryz.prog 4) sm k _ rfl hI.own (by unfold maxLen; omega) _ _ _ rfl rfl Hkey yes [] (plainElem_bool Tryz.underlying4 true) ?_; intro w1 hown1 hgrow1)
          have hI2 := hI.step (show k < Lex.signsL.length from hlt) (fun h hg => h.move (hg.block _ h.lt (fun e => Ine.out (Option.some.inj e).symm))) (by rw [Hb]; exact hown1) hgrow1
          clear hown1 hgrow1
          go_wp2_with fail
          go_roundw
          case rel => exact ⟨k + 1, by omega, by go_num, hI2⟩
          case measure => simp [intOf]; omega
        · obtain rfl : k = 24 := by omega
          go_wp2_with fail
          go_ret
          exact ⟨g, w.heap.size, sm, rfl, hI.blk, hI.oth, hasSet_of hI.own, ig, Nat.le_refl _, ism, hI.bel⟩
end Go.Proofs.YtjcocblohiglbaaGreatDoor
/- The walk of rules: a map from the classes of bytes to the scanner's methods. -/
namespace Go.Proofs.YtjcocblohiglbaaGreatDoor
open Go.RowKit Go.Maps
set_option linter.unusedVariables false
set_option linter.unusedSimpArgs false

theorem keyedInt : Keyed Tryz.prog 3 := int_keyed Tryz.underlying3
/-- How a method reads as data: by its number. -/
def funcElem (v : Value) : Option (DataW Unit × List MemPlace) := match v with
  | .func (.func f) first cap => if first = #[] ∧ cap = #[] then some (.lit (.int .i64 (f : Nat)), []) else none
  | .nilFunc => some (.lit (.bool false), [])
  | _ => none
theorem funcElem_inv {v : Value} {f : Nat} {ps : List MemPlace} (h : funcElem v = some (.lit (.int .i64 (f : Int)), ps)) : v = .func (.func f) #[] #[] := by
  unfold funcElem at h
  split at h
  · split at h
    · rename_i hc
      simp only [Option.some.injEq, Prod.mk.injEq, DataW.lit.injEq, Lit.int.injEq] at h
      obtain ⟨⟨_, h⟩, _⟩ := h
      have := Int.ofNat.inj h
      rw [this, hc.1, hc.2]
    · cases h
  · simp at h
  · cases h
theorem funcElem_mk (f : Nat) : funcElem (.func (.func f) #[] #[]) = some (.lit (.int .i64 (f : Nat)), []) := by simp [funcElem]
theorem zeroFunc (w : World) : (zeroValue 138).run Tryz.prog w = .ok .nilFunc w := by kernel_rfl

theorem wpList_insert_own {H : Type} {P : Program} (w : World) {ops : Array Oper} {rest : List Oper} {o : Oper} {a : Act} {Q : Exit → Act → World → Prop}
    (hg : o.guard = none) (m x v : Operand) (t : TypeId) (hop : o.op = Op.insert t m x v)
    (k e : TypeId) (K : Keyed P k) (ht : P.underlying t = some (.map k e)) (R : Value → Option (DataW H × List MemPlace)) (b n : Nat) (D : DataW H)
    (hm : a.eval m = .map (some b)) (hown : w.ownsMap P k R b n D) (hn : n < maxLen) (key val : Value) (kl : Lit) (hx : a.eval x = key) (hv : a.eval v = val) (hkey : keyOf P k key = some kl)
    (d : DataW H) (ps : List MemPlace) (hval : R val = some (d, ps))
    (hK : ∀ w', w'.ownsMap P k R b (n + 1) (D.put kl d) → w.grownBy w' (some b) → wpList P ops Q rest (a.put o.dst undef) w') :
    wpList P ops Q (o :: rest) a w := by
  refine wpList_plain hg fun K' hK' => ?_
  obtain ⟨w', hrun, r1, r2⟩ := hown.update K ht hn hkey hval
  unfold Oper.wp
  simp [execOp, hop, hm, hx, hv, hrun, Result.andThen]
  exact hK' _ _ (hK w' r1 r2)

def rulesD : DataW Unit :=
  (((((((.map [] : DataW Unit).put (.int .i64 1) (.lit (.int .i64 (91 : Nat)))).put (.int .i64 2) (.lit (.int .i64 (92 : Nat)))).put (.int .i64 3) (.lit (.int .i64 (93 : Nat)))).put (.int .i64 4) (.lit (.int .i64 (94 : Nat)))).put (.int .i64 5) (.lit (.int .i64 (95 : Nat)))).put (.int .i64 0) (.lit (.int .i64 (96 : Nat))))
/-- Which method serves a class of bytes. -/
def ruleOf (c : Nat) : Nat := if c = 1 then 91 else if c = 2 then 92 else if c = 3 then 93 else if c = 4 then 94 else if c = 5 then 95 else 96
def HasRules (w : World) (b : Nat) : Prop := w.ownsMap Tryz.prog 3 funcElem b 6 rulesD
theorem HasRules.move {w W : World} {b : Nat} (h : HasRules w b) (hb : W.heap[b]? = w.heap[b]?) : HasRules W b := by
  obtain ⟨es, clock, he, hr⟩ := h
  exact ⟨es, clock, hb.trans he, hr⟩
theorem rule_0 : rulesD.atKey (.int .i64 ((0 : Nat) : Int)) (.lit (.bool false)) = .lit (.int .i64 ((ruleOf 0 : Nat) : Int)) := by kernel_rfl
theorem rule_1 : rulesD.atKey (.int .i64 ((1 : Nat) : Int)) (.lit (.bool false)) = .lit (.int .i64 ((ruleOf 1 : Nat) : Int)) := by kernel_rfl
theorem rule_2 : rulesD.atKey (.int .i64 ((2 : Nat) : Int)) (.lit (.bool false)) = .lit (.int .i64 ((ruleOf 2 : Nat) : Int)) := by kernel_rfl
theorem rule_3 : rulesD.atKey (.int .i64 ((3 : Nat) : Int)) (.lit (.bool false)) = .lit (.int .i64 ((ruleOf 3 : Nat) : Int)) := by kernel_rfl
theorem rule_4 : rulesD.atKey (.int .i64 ((4 : Nat) : Int)) (.lit (.bool false)) = .lit (.int .i64 ((ruleOf 4 : Nat) : Int)) := by kernel_rfl
theorem rule_5 : rulesD.atKey (.int .i64 ((5 : Nat) : Int)) (.lit (.bool false)) = .lit (.int .i64 ((ruleOf 5 : Nat) : Int)) := by kernel_rfl
theorem rule_all (c : Nat) (hc : c < 6) : rulesD.atKey (.int .i64 (c : Int)) (.lit (.bool false)) = .lit (.int .i64 ((ruleOf c : Nat) : Int)) := by
  have h : c = 0 ∨ c = 1 ∨ c = 2 ∨ c = 3 ∨ c = 4 ∨ c = 5 := by omega
  rcases h with rfl | rfl | rfl | rfl | rfl | rfl
  · exact rule_0
  · exact rule_1
  · exact rule_2
  · exact rule_3
  · exact rule_4
  · exact rule_5
theorem HasRules.look {w : World} {b : Nat} (h : HasRules w b) (c : Nat) (hc : c < 6) : (Instr.lookup 136 (.map (some b)) (.int .i64 (c : Int)) false).run Tryz.prog w = .ok (.func (.func (ruleOf c)) #[] #[]) w := by
  obtain ⟨v, ps, hrun, hv⟩ := World.ownsMap.lookup h keyedInt Tryz.underlying136 (zeroFunc w) (show funcElem .nilFunc = some (.lit (.bool false), []) from rfl) (keyOf_int_mk Tryz.underlying3 (q := .i64) (a := (c : Int)) (WalkArith.wf_i64 (by omega)))
  rw [rule_all c hc] at hv
  rw [hrun, funcElem_inv hv]

set_option maxRecDepth 100000 in
set_option maxHeartbeats 1000000 in
theorem rules_any (w : World) :
    Calls Tryz.prog 83 #[] w fun e w' => e = .returned (.map (some w.heap.size)) ∧ HasRules w' w.heap.size ∧ Below w.heap.size w w' := by
  have hmm := @run_makeMap Tryz.prog
  have hm0 := World.ownsMap_made (H := Unit) w Tryz.prog 3 funcElem
  go_enter Tryz.func83, Tryz.ntmps83
  go_wp2_with (first | (refine wpList_insert_own _ rfl (.tmp 1) (.const (.int .i64 1)) (.func 91) 136 rfl 3 138 keyedInt Tryz.underlying136 funcElem w.heap.size 0 _ rfl hm0 (by unfold maxLen; omega) _ _ _ rfl rfl (keyOf_int_mk Tryz.underlying3 (by decide)) _ _ (funcElem_mk 91) ?_; intro w1 hm1 hg1) | (refine wpList_insert_own _ rfl (.tmp 1) (.const (.int .i64 2)) (.func 92) 136 rfl 3 138 keyedInt Tryz.underlying136 funcElem w.heap.size 1 _ rfl hm1 (by unfold maxLen; omega) _ _ _ rfl rfl (keyOf_int_mk Tryz.underlying3 (by decide)) _ _ (funcElem_mk 92) ?_; intro w2 hm2 hg2) | (refine wpList_insert_own _ rfl (.tmp 1) (.const (.int .i64 3)) (.func 93) 136 rfl 3 138 keyedInt Tryz.underlying136 funcElem w.heap.size 2 _ rfl hm2 (by unfold maxLen; omega) _ _ _ rfl rfl (keyOf_int_mk Tryz.underlying3 (by decide)) _ _ (funcElem_mk 93) ?_; intro w3 hm3 hg3) | (refine wpList_insert_own _ rfl (.tmp 1) (.const (.int .i64 4)) (.func 94) 136 rfl 3 138 keyedInt Tryz.underlying136 funcElem w.heap.size 3 _ rfl hm3 (by unfold maxLen; omega) _ _ _ rfl rfl (keyOf_int_mk Tryz.underlying3 (by decide)) _ _ (funcElem_mk 94) ?_; intro w4 hm4 hg4) | (refine wpList_insert_own _ rfl (.tmp 1) (.const (.int .i64 5)) (.func 95) 136 rfl 3 138 keyedInt Tryz.underlying136 funcElem w.heap.size 4 _ rfl hm4 (by unfold maxLen; omega) _ _ _ rfl rfl (keyOf_int_mk Tryz.underlying3 (by decide)) _ _ (funcElem_mk 95) ?_; intro w5 hm5 hg5) | (refine wpList_insert_own _ rfl (.tmp 1) (.const (.int .i64 0)) (.func 96) 136 rfl 3 138 keyedInt Tryz.underlying136 funcElem w.heap.size 5 _ rfl hm5 (by unfold maxLen; omega) _ _ _ rfl rfl (keyOf_int_mk Tryz.underlying3 (by decide)) _ _ (funcElem_mk 96) ?_; intro w6 hm6 hg6))
  go_ret
  have b0 : Below w.heap.size w (w.alloc (Obj.map #[] 0)) := below_alloc (Below.refl _ _) _
  have b1 := b0.grown hg1 b0.size (fun k hk => by cases hk; exact Nat.le_refl _)
  have b2 := b1.grown hg2 b1.size (fun k hk => by cases hk; exact Nat.le_refl _)
  have b3 := b2.grown hg3 b2.size (fun k hk => by cases hk; exact Nat.le_refl _)
  have b4 := b3.grown hg4 b3.size (fun k hk => by cases hk; exact Nat.le_refl _)
  have b5 := b4.grown hg5 b4.size (fun k hk => by cases hk; exact Nat.le_refl _)
  exact ⟨rfl, hm6, b5.grown hg6 b5.size (fun k hk => by cases hk; exact Nat.le_refl _)⟩
end Go.Proofs.YtjcocblohiglbaaGreatDoor
/- One step of the scanner, whatever the class of the byte: the method that serves it does what the plain step says. -/
namespace Go.Proofs.YtjcocblohiglbaaGreatDoor
open Go.RowKit
set_option linter.unusedVariables false
set_option linter.unusedSimpArgs false

def tokCell (t : Lex.Tok) : List Value := [.int .i64 t.kind, .int .i64 t.n, .string ⟨t.s.toArray⟩, .int .i64 (t.b : Int), .int .i64 (t.e : Int)]
def tokCells (ts : List Lex.Tok) : List Value := ts.flatMap tokCell
def comCells (cs : List (Nat × Nat)) : List Value := cs.flatMap fun c => [.int .i64 (c.1 : Int), .int .i64 (c.2 : Int)]
theorem tokCells_snoc (ts : List Lex.Tok) (t : Lex.Tok) : tokCells (ts ++ [t]) = tokCells ts ++ tokCell t := by simp [tokCells]
theorem comCells_snoc (cs : List (Nat × Nat)) (c : Nat × Nat) : comCells (cs ++ [c]) = comCells cs ++ [.int .i64 (c.1 : Int), .int .i64 (c.2 : Int)] := by simp [comCells]

/-- The scanner in a world: where it is, its tokens, its comments; its sets, and the map of methods beside it. All of it lies from block B on. -/
structure Sc (B : Nat) (w : World) (g wm sm rb : Nat) (s : ByteArray) (p : Nat) (ts : List Lex.Tok) (cs : List (Nat × Nat)) (ov cv : Value) : Prop where
  blk : ScBlk w g s p wm sm ov cv
  out : w.ownsRow B 84 5 ov ts.length (tokCells ts)
  com : w.ownsRow B 160 2 cv cs.length (comCells cs)
  wds : HasSet w wm Lex.wordsL
  sgs : HasSet w sm Lex.signsL
  rul : HasRules w rb
  bg : B ≤ g
  bB : B ≤ w.heap.size

theorem rule_ne {w : World} {b g : Nat} (h : HasRules w b) {cs : Array Value} {t : Nat} {f : Nat × Nat} (hg : w.heap[g]? = some (.cells cs t f)) : b ≠ g := by
  rintro rfl
  obtain ⟨es, clock, he, _⟩ := h
  rw [he] at hg
  cases hg
theorem set_ne {w : World} {b g : Nat} {l : List Lex.Bytes} (h : HasSet w b l) {cs : Array Value} {t : Nat} {f : Nat × Nat} (hg : w.heap[g]? = some (.cells cs t f)) : b ≠ g := by
  rintro rfl
  obtain ⟨n, D, ⟨es, clock, he, _⟩, _⟩ := h
  rw [he] at hg
  cases hg
theorem own_block {w : World} {base : Nat} {e : TypeId} {size n : Nat} {v : Value} {xs : List Value} (h : w.ownsRow base e size v n xs) (k : Nat) (hk : v.ownBlock = some k) : base ≤ k ∧ ∃ cs, w.heap[k]? = some (.cells cs e (0, 0)) := by
  rcases h.2 with ⟨rfl, _⟩ | ⟨gg, cap, cur, rfl, hg, hh, r⟩
  · simp [Value.ownBlock] at hk
  · have : gg = k := by simpa [Value.ownBlock] using hk
    subst this
    exact ⟨hg, cur, hh⟩
theorem own_move {w W : World} {base : Nat} {e : TypeId} {size n : Nat} {v : Value} {xs : List Value} (h : w.ownsRow base e size v n xs) (hm : ∀ k, v.ownBlock = some k → W.heap[k]? = w.heap[k]?) : W.ownsRow base e size v n xs := by
  refine ⟨h.1, ?_⟩
  rcases h.2 with h2 | ⟨gg, cap, cur, rfl, hg, hh, r⟩
  · exact .inl h2
  · exact .inr ⟨gg, cap, cur, rfl, hg, (hm gg rfl).trans hh, r⟩

section
variable {B : Nat} {w w' : World} {g wm sm rb : Nat} {s : ByteArray} {p q : Nat} {ts ts' : List Lex.Tok} {cs cs' : List (Nat × Nat)} {ov cv : Value}
theorem Sc.rb_lt (h : Sc B w g wm sm rb s p ts cs ov cv) : rb < w.heap.size := by
  obtain ⟨es, clock, he, _⟩ := h.rul
  exact (Array.getElem?_eq_some_iff.1 he).1
/-- Behind a take. -/
theorem Sc.took (h : Sc B w g wm sm rb s p ts cs ov cv) {t : Lex.Tok} (hT : Took B w w' g s (q : Int) wm sm ov cv (ts.length + 1) (tokCells ts ++ tokCell t)) : ∃ ov', Sc B w' g wm sm rb s q (ts ++ [t]) cs ov' cv ∧ Below B w w' := by
  obtain ⟨ov', h1, h2, h3⟩ := hT
  have mv : ∀ k, k < w.heap.size → (∃ cs t f, t ≠ 126 ∧ t ≠ 84 ∧ w.heap[k]? = some (.cells cs t f)) ∨ (∃ es c, w.heap[k]? = some (.map es c)) → w'.heap[k]? = w.heap[k]? := fun k hk hx => by
    refine h3.block k hk ⟨?_, ?_⟩
    · rintro rfl
      rcases hx with ⟨cs, t, f, n1, n2, e⟩ | ⟨es, c, e⟩
      · have := h.blk; unfold ScBlk at this; rw [this] at e; injection e with e; injection e with _ e; exact n1 e.symm
      · have := h.blk; unfold ScBlk at this; rw [this] at e; cases e
    · intro hk2
      obtain ⟨_, cs2, e2⟩ := own_block h.out k hk2
      rcases hx with ⟨cs, t, f, n1, n2, e⟩ | ⟨es, c, e⟩
      · rw [e2] at e; injection e with e; injection e with _ e; exact n2 e.symm
      · rw [e2] at e; cases e
  have mset : ∀ {b : Nat} {l : List Lex.Bytes}, HasSet w b l → HasSet w' b l := fun {b l} hs => hs.move (mv b hs.lt (.inr (by obtain ⟨n, D, ⟨es, c, he, _⟩, _⟩ := hs; exact ⟨es, c, he⟩)))
  refine ⟨ov', ⟨h1, by rw [List.length_append, tokCells_snoc]; exact h2, own_move h.com (fun k hk => ?_), mset h.wds, mset h.sgs, h.rul.move (mv rb h.rb_lt (.inr (by obtain ⟨es, c, he, _⟩ := h.rul; exact ⟨es, c, he⟩))), h.bg, Nat.le_trans h.bB h3.size⟩, ?_⟩
  · obtain ⟨_, cs2, e2⟩ := own_block h.com k hk
    exact mv k (Array.getElem?_eq_some_iff.1 e2).1 (.inl ⟨cs2, _, _, by decide, by decide, e2⟩)
  · exact h3.below h.bB (fun k hk => ⟨by have := h.bg; omega, fun e => by have := (own_block h.out k e).1; omega⟩)
/-- Behind a comment. -/
theorem Sc.tookC (h : Sc B w g wm sm rb s p ts cs ov cv) {c : Nat × Nat} (hT : TookC B w w' g s (q : Int) wm sm ov cv (cs.length + 1) (comCells cs ++ [.int .i64 (c.1 : Int), .int .i64 (c.2 : Int)])) : ∃ cv', Sc B w' g wm sm rb s q ts (cs ++ [c]) ov cv' ∧ Below B w w' := by
  obtain ⟨cv', h1, h2, h3⟩ := hT
  have mv : ∀ k, k < w.heap.size → (∃ cs t f, t ≠ 126 ∧ t ≠ 160 ∧ w.heap[k]? = some (.cells cs t f)) ∨ (∃ es c, w.heap[k]? = some (.map es c)) → w'.heap[k]? = w.heap[k]? := fun k hk hx => by
    refine h3.block k hk ⟨?_, ?_⟩
    · rintro rfl
      rcases hx with ⟨cs, t, f, n1, n2, e⟩ | ⟨es, c, e⟩
      · have := h.blk; unfold ScBlk at this; rw [this] at e; injection e with e; injection e with _ e; exact n1 e.symm
      · have := h.blk; unfold ScBlk at this; rw [this] at e; cases e
    · intro hk2
      obtain ⟨_, cs2, e2⟩ := own_block h.com k hk2
      rcases hx with ⟨cs, t, f, n1, n2, e⟩ | ⟨es, c, e⟩
      · rw [e2] at e; injection e with e; injection e with _ e; exact n2 e.symm
      · rw [e2] at e; cases e
  have mset : ∀ {b : Nat} {l : List Lex.Bytes}, HasSet w b l → HasSet w' b l := fun {b l} hs => hs.move (mv b hs.lt (.inr (by obtain ⟨n, D, ⟨es, c, he, _⟩, _⟩ := hs; exact ⟨es, c, he⟩)))
  refine ⟨cv', ⟨h1, own_move h.out (fun k hk => ?_), by rw [List.length_append, comCells_snoc]; exact h2, mset h.wds, mset h.sgs, h.rul.move (mv rb h.rb_lt (.inr (by obtain ⟨es, c, he, _⟩ := h.rul; exact ⟨es, c, he⟩))), h.bg, Nat.le_trans h.bB h3.size⟩, ?_⟩
  · obtain ⟨_, cs2, e2⟩ := own_block h.out k hk
    exact mv k (Array.getElem?_eq_some_iff.1 e2).1 (.inl ⟨cs2, _, _, by decide, by decide, e2⟩)
  · exact h3.below h.bB (fun k hk => ⟨by have := h.bg; omega, fun e => by have := (own_block h.com k e).1; omega⟩)
/-- Behind a blank. -/
theorem Sc.moved (h : Sc B w g wm sm rb s p ts cs ov cv) (q : Nat) : Sc B (w.setCell ⟨g, 1, none⟩ (.int .i64 (q : Int))) g wm sm rb s q ts cs ov cv ∧ Below B w (w.setCell ⟨g, 1, none⟩ (.int .i64 (q : Int))) := by
  have mset : ∀ {b : Nat} {l : List Lex.Bytes}, HasSet w b l → HasSet (w.setCell ⟨g, 1, none⟩ (.int .i64 (q : Int))) b l := fun {b l} hs => hs.move (Below.heap_setCell _ _ _ _ (set_ne hs h.blk))
  refine ⟨⟨h.blk.set1 _, own_setCell h.out (own_ne (g := g) (t := 126) h.out h.blk (by decide)) _, own_setCell h.com (own_ne (g := g) (t := 126) h.com h.blk (by decide)) _, mset h.wds, mset h.sgs, h.rul.move (Below.heap_setCell _ _ _ _ (rule_ne h.rul h.blk)), h.bg, by have := h.bB; simpa [World.setCell] using this⟩, (Below.refl _ _).setCell h.bg _⟩
theorem Sc.drewN (h : Sc B w g wm sm rb s p ts cs ov cv) (n : Nat) : Sc B (w.drewN n) g wm sm rb s p ts cs ov cv :=
  ⟨h.blk.drewN n, own_drewN h.out n, own_drewN h.com n, h.wds.move rfl, h.sgs.move rfl, h.rul.move rfl, h.bg, h.bB⟩
end

/-! ### the plain step, in the walk's words -/
theorem take_run (f : UInt8 → Bool) (s : ByteArray) (p : Nat) : (s.extract p (p + run f s p)).data.toList = (rest s p).takeWhile f := by
  rw [Lib.extract_data]
  unfold run rest
  rw [show p + (List.takeWhile f (List.drop p s.data.toList)).length - p = (List.takeWhile f (List.drop p s.data.toList)).length by omega]
  exact (List.prefix_iff_eq_take.1 (List.takeWhile_prefix f)).symm
theorem run_len (f : UInt8 → Bool) (s : ByteArray) (p : Nat) : run f s p = ((rest s p).takeWhile f).length := rfl
theorem bytes_eq {s : ByteArray} {l : List UInt8} (h : s.data.toList = l) : (⟨l.toArray⟩ : ByteArray) = s := by
  subst h
  obtain ⟨⟨l⟩⟩ := s
  rfl
theorem take_ext (s : ByteArray) (p k : Nat) : (s.extract p (p + k)).data.toList = (rest s p).take k := by
  rw [Lib.extract_data]
  unfold rest
  rw [show p + k - p = k by omega]
theorem rest_len (s : ByteArray) (p : Nat) : (rest s p).length = s.size - p := by unfold rest; simp

/-- What one step does. -/
def StepPost (B : Nat) (g wm sm rb : Nat) (s : ByteArray) (p : Nat) (ts : List Lex.Tok) (cs : List (Nat × Nat)) (w : World) (e : Ending) (w' : World) : Prop :=
  Below B w w' ∧ match Lex.step (rest s p) with
  | .skip => e = .returned (.tuple #[]) ∧ ∃ ov cv, Sc B w' g wm sm rb s (p + 1) ts cs ov cv
  | .comm k => e = .returned (.tuple #[]) ∧ 1 ≤ k ∧ p + k ≤ s.size ∧ ∃ ov cv, Sc B w' g wm sm rb s (p + k) ts (cs ++ [(p, p + k)]) ov cv
  | .tok kd n b k => e = .returned (.tuple #[]) ∧ 1 ≤ k ∧ p + k ≤ s.size ∧ ∃ ov cv, Sc B w' g wm sm rb s (p + k) (ts ++ [⟨kd, n, b, p, p + k⟩]) cs ov cv
  | .bad => e = wrongAt p 10
end Go.Proofs.YtjcocblohiglbaaGreatDoor
/- Whatever the class of a byte: the method that serves it does what the plain step says. -/
namespace Go.Proofs.YtjcocblohiglbaaGreatDoor
open Go.RowKit
set_option linter.unusedVariables false
set_option linter.unusedSimpArgs false

theorem step_at (s : ByteArray) (p : Nat) (hlt : p < s.size) : Lex.step (rest s p) = if Lex.cls s[p] = 1 then .skip else if Lex.cls s[p] = 2 then Lex.wordStep (rest s p) else if Lex.cls s[p] = 3 then Lex.numStep (rest s p) else if Lex.cls s[p] = 4 then Lex.symStep (rest s p) else if Lex.cls s[p] = 5 then Lex.markStep (rest s p) else .bad := by
  rw [rest_step s p hlt]
  rfl
theorem cls_lt (c : UInt8) : Lex.cls c < 6 := by
  unfold Lex.cls
  repeat' split
  all_goals omega

section
variable {B : Nat} {w : World} {g wm sm rb : Nat} {s : ByteArray} {p : Nat} {ts : List Lex.Tok} {cs : List (Nat × Nat)} {ov cv : Value}
theorem post_skip {e : Ending} {w' : World} (h : Lex.step (rest s p) = .skip) (hb : Below B w w') (h1 : e = .returned (.tuple #[])) (h2 : ∃ ov cv, Sc B w' g wm sm rb s (p + 1) ts cs ov cv) : StepPost B g wm sm rb s p ts cs w e w' := by
  unfold StepPost; rw [h]; exact ⟨hb, h1, h2⟩
theorem post_comm {e : Ending} {w' : World} {k : Nat} (h : Lex.step (rest s p) = .comm k) (hb : Below B w w') (h1 : e = .returned (.tuple #[])) (h2 : 1 ≤ k) (h3 : p + k ≤ s.size) (h4 : ∃ ov cv, Sc B w' g wm sm rb s (p + k) ts (cs ++ [(p, p + k)]) ov cv) : StepPost B g wm sm rb s p ts cs w e w' := by
  unfold StepPost; rw [h]; exact ⟨hb, h1, h2, h3, h4⟩
theorem post_tok {e : Ending} {w' : World} {kd n : Int} {b : List UInt8} {k : Nat} (h : Lex.step (rest s p) = .tok kd n b k) (hb : Below B w w') (h1 : e = .returned (.tuple #[])) (h2 : 1 ≤ k) (h3 : p + k ≤ s.size) (h4 : ∃ ov cv, Sc B w' g wm sm rb s (p + k) (ts ++ [⟨kd, n, b, p, p + k⟩]) cs ov cv) : StepPost B g wm sm rb s p ts cs w e w' := by
  unfold StepPost; rw [h]; exact ⟨hb, h1, h2, h3, h4⟩
theorem post_bad {w' : World} (h : Lex.step (rest s p) = .bad) (hb : Below B w w') : StepPost B g wm sm rb s p ts cs w (wrongAt p 10) w' := by
  unfold StepPost; rw [h]; exact ⟨hb, rfl⟩

theorem step_fail (h : Sc B w g wm sm rb s p ts cs ov cv) (hlt : p < s.size) (hc : Lex.cls s[p] = 0) :
    Calls Tryz.prog 96 #[.pointer (some ⟨g, 0, none⟩)] w (StepPost B g wm sm rb s p ts cs w) := by
  refine (fail_any g wm sm s p ov cv w h.blk).mono ?_
  rintro e w' ⟨rfl, rfl⟩
  exact post_bad (by rw [step_at s p hlt, hc]; simp) (Below.refl _ _)
theorem step_blank (hs : s.size ≤ 100000) (h : Sc B w g wm sm rb s p ts cs ov cv) (hlt : p < s.size) (hc : Lex.cls s[p] = 1) :
    Calls Tryz.prog 91 #[.pointer (some ⟨g, 0, none⟩)] w (StepPost B g wm sm rb s p ts cs w) := by
  refine (blank_any g wm sm s p ov cv w (by omega) (by omega) h.blk).mono ?_
  rintro e w' ⟨rfl, rfl⟩
  have := h.moved (p + 1)
  rw [show ((p + 1 : Nat) : Int) = (p : Int) + 1 by omega] at this
  exact post_skip (by rw [step_at s p hlt, hc]; simp) this.2 rfl ⟨_, _, this.1⟩
theorem took_cast {w' : World} {m : Nat} {xs : List Value} {kd n : Int} {b : List UInt8} {k : Nat} {str : ByteArray} (hb : str.data.toList = b) (hT : Took B w w' g s ((p : Int) + (k : Nat)) wm sm ov cv m (xs ++ [.int .i64 kd, .int .i64 n, .string str, .int .i64 (p : Int), .int .i64 ((p : Int) + (k : Nat))])) :
    Took B w w' g s ((p + k : Nat) : Int) wm sm ov cv m (xs ++ tokCell ⟨kd, n, b, p, p + k⟩) := by
  unfold tokCell
  rw [bytes_eq hb, show ((p + k : Nat) : Int) = (p : Int) + (k : Nat) by omega]
  exact hT
theorem first_run (f : UInt8 → Bool) (hlt : p < s.size) (hf : f s[p] = true) : 1 ≤ run f s p := by
  rw [run_step f s p hlt, if_pos hf]
  omega
theorem word_eq : Lex.wordStep (rest s p) = if 32 < run Lex.inName s p then .bad else .tok (if Lex.wordsL.contains ((rest s p).takeWhile Lex.inName) = true then 2 else 1) 0 ((rest s p).takeWhile Lex.inName) (run Lex.inName s p) := rfl
theorem sym_eq : Lex.symStep (rest s p) = if 32 < run Lex.isSym s p then .bad else .tok (if Lex.signsL.contains ((rest s p).takeWhile Lex.isSym) = true then 5 else 4) 0 ((rest s p).takeWhile Lex.isSym) (run Lex.isSym s p) := rfl
theorem num_eq : Lex.numStep (rest s p) = if 2147483647 < Lex.digVal ((rest s p).takeWhile Lex.isDigit) then .bad else if Lex.nextInName ((rest s p).drop (run Lex.isDigit s p)) then .bad else .tok 3 (Lex.digVal ((rest s p).takeWhile Lex.isDigit)) [] (run Lex.isDigit s p) := rfl
theorem step_word (hs : s.size ≤ 100000) (ht : ts.length ≤ 200000) (h : Sc B w g wm sm rb s p ts cs ov cv) (hlt : p < s.size) (hc : Lex.cls s[p] = 2) :
    Calls Tryz.prog 92 #[.pointer (some ⟨g, 0, none⟩)] w (StepPost B g wm sm rb s p ts cs w) := by
  have hst : Lex.step (rest s p) = Lex.wordStep (rest s p) := by rw [step_at s p hlt, hc]; simp
  have hle := run_le Lex.inName s p (by omega)
  have h1 : 1 ≤ run Lex.inName s p := first_run _ hlt (by rw [inName_def, hc]; rfl)
  by_cases hr : 32 < run Lex.inName s p
  · refine (word_long B g wm sm s p ov cv ts.length (tokCells ts) w hs (by omega) h.blk h.out h.bg ht h.wds hr).mono ?_
    rintro e w' ⟨rfl, rfl⟩
    exact post_bad (by rw [hst, word_eq, if_pos hr]) (Below.refl _ _)
  · cases hin : Lex.wordsL.contains (s.extract p (p + run Lex.inName s p)).data.toList with
    | true =>
      refine (word_in B g wm sm s p ov cv ts.length (tokCells ts) w hs (by omega) h.blk h.out h.bg ht h.wds (by omega) hin).mono ?_
      rintro e w' ⟨rfl, hT⟩
      obtain ⟨ov', hS, hB⟩ := h.took (took_cast (take_run _ _ _) hT)
      rw [take_run] at hin
      exact post_tok (by rw [hst, word_eq, if_neg hr, hin]; rfl) hB rfl h1 hle ⟨_, _, hS⟩
    | false =>
      refine (word_out B g wm sm s p ov cv ts.length (tokCells ts) w hs (by omega) h.blk h.out h.bg ht h.wds (by omega) hin).mono ?_
      rintro e w' ⟨rfl, hT⟩
      obtain ⟨ov', hS, hB⟩ := h.took (took_cast (take_run _ _ _) hT)
      rw [take_run] at hin
      exact post_tok (by rw [hst, word_eq, if_neg hr, hin]; rfl) hB rfl h1 hle ⟨_, _, hS⟩
theorem step_symbols (hs : s.size ≤ 100000) (ht : ts.length ≤ 200000) (h : Sc B w g wm sm rb s p ts cs ov cv) (hlt : p < s.size) (hc : Lex.cls s[p] = 4) :
    Calls Tryz.prog 94 #[.pointer (some ⟨g, 0, none⟩)] w (StepPost B g wm sm rb s p ts cs w) := by
  have hst : Lex.step (rest s p) = Lex.symStep (rest s p) := by rw [step_at s p hlt, hc]; simp
  have hle := run_le Lex.isSym s p (by omega)
  have h1 : 1 ≤ run Lex.isSym s p := first_run _ hlt (by rw [isSym_def, hc]; rfl)
  by_cases hr : 32 < run Lex.isSym s p
  · refine (symbols_long B g wm sm s p ov cv ts.length (tokCells ts) w hs (by omega) h.blk h.out h.bg ht h.sgs hr).mono ?_
    rintro e w' ⟨rfl, rfl⟩
    exact post_bad (by rw [hst, sym_eq, if_pos hr]) (Below.refl _ _)
  · cases hin : Lex.signsL.contains (s.extract p (p + run Lex.isSym s p)).data.toList with
    | true =>
      refine (symbols_in B g wm sm s p ov cv ts.length (tokCells ts) w hs (by omega) h.blk h.out h.bg ht h.sgs (by omega) hin).mono ?_
      rintro e w' ⟨rfl, hT⟩
      obtain ⟨ov', hS, hB⟩ := h.took (took_cast (take_run _ _ _) hT)
      rw [take_run] at hin
      exact post_tok (by rw [hst, sym_eq, if_neg hr, hin]; rfl) hB rfl h1 hle ⟨_, _, hS⟩
    | false =>
      refine (symbols_out B g wm sm s p ov cv ts.length (tokCells ts) w hs (by omega) h.blk h.out h.bg ht h.sgs (by omega) hin).mono ?_
      rintro e w' ⟨rfl, hT⟩
      obtain ⟨ov', hS, hB⟩ := h.took (took_cast (take_run _ _ _) hT)
      rw [take_run] at hin
      exact post_tok (by rw [hst, sym_eq, if_neg hr, hin]; rfl) hB rfl h1 hle ⟨_, _, hS⟩
theorem next_at (q : Nat) (hq : q < s.size) : Lex.nextInName (rest s q) = Lex.inName s[q] := by
  rw [rest_step s q hq]
  rfl
theorem drop_rest (k : Nat) : (rest s p).drop k = rest s (p + k) := by unfold rest; rw [List.drop_drop]
theorem step_number (hs : s.size ≤ 100000) (ht : ts.length ≤ 200000) (hG : GL w) (h : Sc B w g wm sm rb s p ts cs ov cv) (hlt : p < s.size) (hc : Lex.cls s[p] = 3) :
    Calls Tryz.prog 93 #[.pointer (some ⟨g, 0, none⟩)] w (StepPost B g wm sm rb s p ts cs w) := by
  have hst : Lex.step (rest s p) = Lex.numStep (rest s p) := by rw [step_at s p hlt, hc]; simp
  have hle := run_le Lex.isDigit s p (by omega)
  have h1 : 1 ≤ run Lex.isDigit s p := first_run _ hlt (by rw [isDigit_def, hc]; rfl)
  have hd : (s.extract p (p + run Lex.isDigit s p)).data.toList.all Lex.isDigit = true := by
    rw [take_run]
    exact List.all_takeWhile
  have hne : (s.extract p (p + run Lex.isDigit s p)).data.toList ≠ [] := by
    rw [take_run]
    intro e
    rw [run_len, e] at h1
    simp at h1
  have hv := take_run Lex.isDigit s p
  have low : ∀ {w'}, Below w.heap.size w w' → Below B w w' := fun hb => hb.mono h.bB
  by_cases h2 : Lex.digVal (s.extract p (p + run Lex.isDigit s p)).data.toList ≤ 2147483647
  · by_cases h3 : p + run Lex.isDigit s p < s.size
    · cases hin : Lex.inName (s[p + run Lex.isDigit s p]'h3) with
      | true =>
        refine (number_glued B g wm sm s p ov cv ts.length (tokCells ts) w hs (by omega) h.blk h.out h.bg ht hne hd h2 h3 hin).mono ?_
        rintro e w' ⟨rfl, hB⟩
        refine post_bad ?_ (low hB)
        rw [hv] at h2; rw [hst, num_eq]
        rw [if_neg (by omega), drop_rest, next_at _ h3, hin]; rfl
      | false =>
        refine (number_apart B g wm sm s p ov cv ts.length (tokCells ts) w hs (by omega) h.blk h.out h.bg ht hne hd h2 h3 hin).mono ?_
        rintro e w' ⟨rfl, hT⟩
        obtain ⟨ov', hS, hB⟩ := h.took (took_cast (b := []) rfl hT)
        rw [hv] at hS
        refine post_tok ?_ hB rfl h1 hle ⟨_, _, hS⟩
        rw [hv] at h2; rw [hst, num_eq]
        rw [if_neg (by omega), drop_rest, next_at _ h3, hin]; rfl
    · refine (number_ends B g wm sm s p ov cv ts.length (tokCells ts) w hs (by omega) h.blk h.out h.bg ht hne hd h2 (by omega)).mono ?_
      rintro e w' ⟨rfl, hT⟩
      obtain ⟨ov', hS, hB⟩ := h.took (took_cast (b := []) rfl hT)
      rw [hv] at hS
      refine post_tok ?_ hB rfl h1 hle ⟨_, _, hS⟩
      rw [hv] at h2; rw [hst, num_eq]
      rw [if_neg (by omega), drop_rest, rest_end s _ (by omega)]; rfl
  · have hbad : Lex.step (rest s p) = .bad := by
      rw [hv] at h2; rw [hst, num_eq]
      rw [if_pos (by omega)]
    by_cases h3 : Lex.digVal (s.extract p (p + run Lex.isDigit s p)).data.toList < 9223372036854775808
    · refine (number_big B g wm sm s p ov cv ts.length (tokCells ts) w hs (by omega) h.blk h.out h.bg ht hne hd (by omega) h3).mono ?_
      rintro e w' ⟨rfl, hB⟩
      exact post_bad hbad (low hB)
    · refine (number_range B g wm sm s p ov cv w hs (by omega) h.blk hG hne hd (by omega)).mono ?_
      rintro e w' ⟨rfl, hB⟩
      exact post_bad hbad (low hB)
theorem beg_eq (l : List UInt8) : Lex.begComment l = Lib.hasPrefix l [40, 42] := by
  unfold Lib.hasPrefix
  match l with
  | [] => rfl
  | [x] => simp [List.isPrefixOf, Lex.begComment]
  | x :: y :: r =>
    by_cases h1 : x = 40
    · subst h1
      by_cases h2 : y = 42
      · subst h2; rfl
      · have e : ([40, 42] : List UInt8).isPrefixOf (40 :: y :: r) = false := by simp [List.isPrefixOf]; exact fun h => h2 h.symm
        rw [e]
        unfold Lex.begComment
        split
        · rename_i h; injection h with _ h; injection h with h _; exact absurd h h2
        · rfl
    · have e : ([40, 42] : List UInt8).isPrefixOf (x :: y :: r) = false := by simp [List.isPrefixOf]; exact fun h => absurd h.symm h1
      rw [e]
      unfold Lex.begComment
      split
      · rename_i h; injection h with h _; exact absurd h h1
      · rfl
theorem signOk_iff (hp : p ≤ s.size) (k : Nat) : SignOk s p k ↔ k ≤ (rest s p).length ∧ Lex.signsL.contains ((rest s p).take k) = true := by
  unfold SignOk
  rw [take_ext, rest_len]
  constructor
  · rintro ⟨a, b⟩; exact ⟨by omega, b⟩
  · rintro ⟨a, b⟩; exact ⟨by omega, b⟩
theorem markLen_some {k : Nat} (hp : p ≤ s.size) (h1 : 1 ≤ k) (h3 : k ≤ 3) (hk : SignOk s p k) (hn : NoSign s p k) : Lex.markLen (rest s p) = some k := by
  have ok := fun j => signOk_iff (s := s) hp j
  unfold Lex.markLen
  have hc : k = 3 ∨ k = 2 ∨ k = 1 := by omega
  rcases hc with rfl | rfl | rfl
  · rw [if_pos ((ok 3).1 hk)]
  · rw [if_neg (fun e => hn 3 (by omega) (by omega) ((ok 3).2 e)), if_pos ((ok 2).1 hk)]
  · rw [if_neg (fun e => hn 3 (by omega) (by omega) ((ok 3).2 e)), if_neg (fun e => hn 2 (by omega) (by omega) ((ok 2).2 e)), if_pos ((ok 1).1 hk)]
theorem markLen_none (hp : p ≤ s.size) (hn : NoSign s p 0) : Lex.markLen (rest s p) = none := by
  have ok := fun j => signOk_iff (s := s) hp j
  unfold Lex.markLen
  rw [if_neg (fun e => hn 3 (by omega) (by omega) ((ok 3).2 e)), if_neg (fun e => hn 2 (by omega) (by omega) ((ok 2).2 e)), if_neg (fun e => hn 1 (by omega) (by omega) ((ok 1).2 e))]
theorem comLen_pos : ∀ (l : List UInt8) (d k : Nat), Lex.comLen d l = some k → 1 ≤ k
  | [], d, k, h => by simp [Lex.comLen] at h
  | [x], d, k, h => by simp [Lex.comLen] at h
  | x :: y :: r, d, k, h => by
    rw [Lex.comLen] at h
    split at h
    · simp at h; obtain ⟨j, _, rfl⟩ := h; omega
    · split at h
      · split at h
        · simp at h; omega
        · simp at h; obtain ⟨j, _, rfl⟩ := h; omega
      · simp at h; obtain ⟨j, _, rfl⟩ := h; omega
theorem step_mark (hs : s.size ≤ 100000) (ht : ts.length ≤ 200000) (hcs : cs.length ≤ 200000) (h : Sc B w g wm sm rb s p ts cs ov cv) (hlt : p < s.size) (hc : Lex.cls s[p] = 5) :
    Calls Tryz.prog 95 #[.pointer (some ⟨g, 0, none⟩)] w (StepPost B g wm sm rb s p ts cs w) := by
  have hst : Lex.step (rest s p) = Lex.markStep (rest s p) := by rw [step_at s p hlt, hc]; simp
  have low : ∀ {w'}, Below w.heap.size w w' → Below B w w' := fun hb => hb.mono h.bB
  cases hbeg : Lib.hasPrefix (rest s p) [40, 42] with
  | true =>
    refine (mark_comment B g wm sm s p ov cv cs.length (comCells cs) w hs (by omega) h.blk h.com h.bg hcs hbeg).mono ?_
    rintro e w' (⟨k, hk, rfl, hle, hT⟩ | ⟨hk, rfl, hB⟩)
    · have hT' : TookC B w w' g s ((p + k : Nat) : Int) wm sm ov cv (cs.length + 1) (comCells cs ++ [.int .i64 ((p, p + k).1 : Int), .int .i64 ((p, p + k).2 : Int)]) := by
        simp only
        rw [show ((p + k : Nat) : Int) = (p : Int) + (k : Nat) by omega]
        exact hT
      obtain ⟨cv', hS, hB⟩ := h.tookC hT'
      exact post_comm (by rw [hst]; unfold Lex.markStep; rw [beg_eq, hbeg, if_pos rfl, hk]) hB rfl (comLen_pos _ _ _ hk) hle ⟨_, _, hS⟩
    · exact post_bad (by rw [hst]; unfold Lex.markStep; rw [beg_eq, hbeg, if_pos rfl, hk]) (low hB)
  | false =>
    refine (mark_sign B g wm sm s p ov cv ts.length (tokCells ts) w hs (by omega) h.blk h.out h.bg ht h.sgs hbeg).mono ?_
    rintro e w' (⟨k, k1, k3, hk, hno, rfl, hT⟩ | ⟨hno, rfl, hB⟩)
    · obtain ⟨ov', hS, hB⟩ := h.took (took_cast (take_ext s p k) hT)
      exact post_tok (by rw [hst]; unfold Lex.markStep; rw [beg_eq, hbeg, if_neg (by simp), markLen_some (by omega) k1 k3 hk hno]) hB rfl k1 hk.1 ⟨_, _, hS⟩
    · exact post_bad (by rw [hst]; unfold Lex.markStep; rw [beg_eq, hbeg, if_neg (by simp), markLen_none (by omega) hno]) (low hB)

theorem step_calls (hs : s.size ≤ 100000) (ht : ts.length ≤ 200000) (hcs : cs.length ≤ 200000) (hG : GL w) (h : Sc B w g wm sm rb s p ts cs ov cv) (hlt : p < s.size) :
    Calls Tryz.prog (ruleOf (Lex.cls s[p])) #[.pointer (some ⟨g, 0, none⟩)] w (StepPost B g wm sm rb s p ts cs w) := by
  have hc := cls_lt s[p]
  have hh : Lex.cls s[p] = 0 ∨ Lex.cls s[p] = 1 ∨ Lex.cls s[p] = 2 ∨ Lex.cls s[p] = 3 ∨ Lex.cls s[p] = 4 ∨ Lex.cls s[p] = 5 := by omega
  rcases hh with e | e | e | e | e | e <;> rw [e]
  · exact step_fail h hlt e
  · exact step_blank hs h hlt e
  · exact step_word hs ht h hlt e
  · exact step_number hs ht hG h hlt e
  · exact step_symbols hs ht h hlt e
  · exact step_mark hs ht hcs h hlt e
end
theorem rule_enters (c : Nat) (args : Array Value) (w : World) : (callFunc (ruleOf c) args).run Tryz.prog w = .ok (.enter (ruleOf c) args) w := by
  unfold ruleOf
  split
  · exact enters_of Tryz.func91 (by kernel_rfl) rfl args w
  split
  · exact enters_of Tryz.func92 (by kernel_rfl) rfl args w
  split
  · exact enters_of Tryz.func93 (by kernel_rfl) rfl args w
  split
  · exact enters_of Tryz.func94 (by kernel_rfl) rfl args w
  split
  · exact enters_of Tryz.func95 (by kernel_rfl) rfl args w
  · exact enters_of Tryz.func96 (by kernel_rfl) rfl args w
end Go.Proofs.YtjcocblohiglbaaGreatDoor
