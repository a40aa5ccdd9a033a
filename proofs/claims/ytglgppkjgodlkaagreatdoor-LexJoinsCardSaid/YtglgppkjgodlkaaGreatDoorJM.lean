/- Package lex over deep values: contracts of other proofs, taken over. Conditions: none. -/
import Derived.Test.YtglgppkjgodlkaaGreatDoorJK
import Derived.Test.YtglgppkjgodlkaaGreatDoorME
import Derived.Test.YtglgppkjgodlkaaGreatDoorJI
import Derived.Test.YtglgppkjgodlkaaGreatDoorDp
import Derived.Test.YtglgppkjgodlkaaGreatDoorLJn
import Derived.Test.YtglgppkjgodlkaaGreatDoorLX2
import Derived.Test.YtglgppkjgodlkaaGreatDoorG3
import Derived.Test.YtglgppkjgodlkaaGreatDoorG13
namespace Go.Proofs.YtglgppkjgodlkaaGreatDoor.J
open Go.Dp Rl
open Go.RowKit Go.Proofs.YtglgppkjgodlkaaGreatDoorW.PrintWords Go.Proofs.YtglgppkjgodlkaaGreatDoor.P
set_option linter.unusedVariables false
set_option linter.unusedSimpArgs false
def toZ (t : Tz) : S38 := ⟨t.kd, t.n, t.s, t.b, t.e⟩
theorem vr_toks {g : Gh} {w : World} {v : Value} {L : List Tz} (h : VR g w v (.sl 5 (ezs L))) : ∃ A c, v = .slice A (L.map toZ).length c ∧ (L.map toZ).length ≤ c ∧ Kd.C k38 w A (L.map toZ).length (L.map toZ) := by
  have hll : (L.map toZ).length = L.length := List.length_map ..
  rcases h.row with ⟨⟨a0, c0, rfl, _⟩, hn⟩ | ⟨b, o, cap, xs, rfl, hc, hm, hrow, hcell⟩
  · have hL : L = [] := by
      have := congrArg List.length hn
      rw [ezs_length] at this
      exact List.eq_nil_of_length_eq_zero this
    subst hL
    exact ⟨a0, c0, rfl, Nat.zero_le _, rfl, Nat.zero_le _, fun h => absurd h (Nat.lt_irrefl 0)⟩
  · rw [ezs_length] at hc ⊢
    rw [hll]
    refine ⟨_, cap, rfl, hc, hll, by unfold maxLen at hm; omega, fun _ => ⟨_, rfl, fun j p hj => ?_⟩⟩
    rw [List.getElem?_map] at hj
    cases hjl : L[j]? with
    | none => rw [hjl] at hj; cases hj
    | some t =>
      rw [hjl] at hj
      cases hj
      refine ⟨[.int .i64 t.kd, .int .i64 t.n, .string t.s, .int .i64 t.b, .int .i64 t.e], rfl, k38_mk w (toZ t), fun i u hu => ?_⟩
      have hg := ezs_get hjl
      have hy : (ez t).cells[i]? = some (.sc u) := by
        rw [ez_cells]
        match i, hu with
        | 0, hu => cases hu; rfl
        | 1, hu => cases hu; rfl
        | 2, hu => cases hu; rfl
        | 3, hu => cases hu; rfl
        | 4, hu => cases hu; rfl
      obtain ⟨v, h1, h2⟩ := hrow.val j (ez t) i (.sc u) hg hy
      have hlt := (List.getElem?_eq_some_iff.1 h1).1
      show w.cell? ((⟨b, o, none⟩ : Addr).add (j * 5 + i)) = some u
      rw [add_addr, (hcell _ hlt).1, h1, h2.bool]
theorem itoa_all : ItoaAll GL := fun n h0 h1 => sim_olds ⟨_, _, Tryz.func57, rfl, rfl⟩ fun w0 g w vs hI hB hv => by
  have e := VRs.scalars (us := [.int .i64 n]) hv
  subst e
  exact itoa_any n h0 h1 w (hI.below hB)
theorem sim_lStrip (a : ByteArray) (ha : Small a) : Sim Tryz.prog GL 33 [str a] [] (fun o τ => o = .ret (stripV (Lex.stripL a.data.toList)) ∧ τ = []) :=
  sim_oldt [.string ⟨(Lex.stripL a.data.toList).1.toArray⟩, .int .i64 ((Lex.stripL a.data.toList).2 : Nat)] ⟨_, _, Tryz.func33, rfl, rfl⟩ fun w0 g w vs hI hB hv => by
    have e := VRs.scalars (us := [.string a]) hv
    subst e
    exact strip_any a w ha (hI.below hB)
theorem fine_of {t : Tz} (h : FineZ t) : Fine (toZ t) := ⟨h.n0, h.n1, h.sz⟩
theorem tk_toZ (t : Tz) : tk (toZ t) = t.tok := rfl
theorem toks_map (L : List Tz) : (L.map toZ).map tk = L.map Tz.tok := by rw [List.map_map]; rfl
/-- What Join returns. -/
noncomputable def joinR (L : List Tz) : ByteArray × Int := if L.all (fun t => rightB t.tok) = true then (bs (Lex.joinL (L.map Tz.tok)), 0) else (⟨#[]⟩, 1)
theorem all_right {L : List Tz} : (L.all fun t => rightB t.tok) = true ↔ ∀ t ∈ L.map Tz.tok, Lex.Right t := by
  rw [List.all_eq_true]
  constructor
  · intro h t ht
    obtain ⟨x, hx, rfl⟩ := List.mem_map.1 ht
    exact rightB_iff.1 (h x hx)
  · intro h x hx
    exact rightB_iff.2 (h _ (List.mem_map_of_mem hx))
theorem sim_lJoin (L : List Tz) (hl : L.length ≤ 2000) (hf : ∀ x ∈ L, FineZ x) (hsum : Lex.sumT (L.map Tz.tok) ≤ 80000) :
    Sim Tryz.prog GL 24 [.sl 5 (ezs L)] [] (fun o τ => o = .ret (.tu [str (joinR L).1, i64 (joinR L).2]) ∧ τ = []) := by
  refine sim_oldt [.string (joinR L).1, .int .i64 (joinR L).2] ⟨_, _, Tryz.func24, rfl, rfl⟩ fun w0 g w vs hI hB hv => ?_
  obtain ⟨v, rfl⟩ : ∃ v, vs = [v] := by
    match vs, hv.1 with
    | [v], _ => exact ⟨v, rfl⟩
  obtain ⟨A, c, rfl, hc, hC⟩ := vr_toks (hv.2 0 v _ rfl rfl)
  have hj := join_of (L.map toZ) (by rw [List.length_map]; exact hl) (fun x hx => by obtain ⟨t, ht, rfl⟩ := List.mem_map.1 hx; exact fine_of (hf t ht)) (by rw [toks_map]; exact hsum)
  have key : lex_Join.f (L.map toZ) = some ((joinR L).1, (joinR L).2) := by
    rw [toks_map] at hj
    unfold joinR
    rcases hj with ⟨h1, h2⟩ | ⟨h1, h2⟩
    · rw [if_pos (all_right.2 h1), h2]
    · rw [if_neg (fun h => h1 (all_right.1 h)), h2]
  exact lex_Join.calls A c (L.map toZ) _ _ w hC hc key (hI.below hB)
theorem last_place (s : ByteArray) : ∀ k, k ≤ s.size → ((placeL (s.data.toList.take k)).2 : Int) = (k : Int) - Lib.lastIdx s 10 k ∧ (placeL (s.data.toList.take k)).1 = 1 + (s.data.toList.take k).count 10
  | 0, _ => ⟨rfl, rfl⟩
  | k + 1, h => by
    obtain ⟨i1, i2⟩ := last_place s k (by omega)
    obtain ⟨x, hx, hd⟩ := drop_at (a := s) (i := k) (by omega)
    have hts : s.data.toList.take (k + 1) = s.data.toList.take k ++ [x] := by rw [List.take_add_one, hx]; rfl
    have hb : s.data[k]! = x := by
      have : s.data[k]? = some x := by simpa using hx
      rw [Array.getElem!_eq_getD, Array.getD_eq_getD_getElem?, this]; rfl
    rw [hts, placeL_snoc, List.count_append, Lib.lastIdx, hb]
    by_cases h10 : x = 10
    · subst h10
      rw [if_pos rfl, if_pos (by decide)]
      refine ⟨by dsimp only; omega, ?_⟩
      dsimp only
      rw [i2]
      simp
      omega
    · have h10' : ¬ ((x.toNat : Nat) : Int) = 10 := fun h => h10 (byte_eq (c := 10) |>.1 h)
      rw [if_neg h10, if_neg h10']
      refine ⟨by dsimp only; omega, ?_⟩
      dsimp only
      rw [i2]
      simp [List.count_cons, h10]
theorem place_calc (a : ByteArray) (ha : Small a) (at_ : Int) : ∃ r1 r2 r3, lex_Place.f 1 a at_ = some (r1, r2, r3) ∧ placeV a at_ = .tu [i64 r1, i64 r2, i64 r3] := by
  have ha' : a.size ≤ 140737488351232 := ha
  unfold placeV lex_Place.f
  by_cases hbad : at_ < 0 ∨ (a.size : Int) < at_
  · rw [if_pos hbad]
    refine ⟨0, 0, 1, ?_, rfl⟩
    by_cases h0 : at_ < 0
    · rw [if_pos h0, lex_Place.j0, if_pos rfl]
    · rw [if_neg h0, show decide (at_ > (a.size : Int)) = true from decide_eq_true (by omega), lex_Place.j0, if_pos rfl]
  · rw [if_neg hbad, if_neg (by omega), show decide (at_ > (a.size : Int)) = false from decide_eq_false (by omega), lex_Place.j0, if_neg (by simp), if_pos (by omega), if_pos (by omega)]
    have hs : (a.extract 0 at_.toNat).data.toList = a.data.toList.take at_.toNat := by rw [ext_l]; simp
    have hsz : (a.extract 0 at_.toNat).size = at_.toNat := by rw [← size_l, hs, List.length_take, size_l]; omega
    obtain ⟨h1, h2⟩ := last_place (a.extract 0 at_.toNat) at_.toNat (by omega)
    rw [hs, List.take_take, Nat.min_self] at h1 h2
    have hpl := placeL_le (a.data.toList.take at_.toNat)
    have hln : (a.data.toList.take at_.toNat).length ≤ a.size := by rw [List.length_take, size_l]; omega
    refine ⟨((placeL (a.data.toList.take at_.toNat)).1 : Int), ((placeL (a.data.toList.take at_.toNat)).2 : Int), 0, ?_, rfl⟩
    unfold strings_Count.f strings_LastIndexByte.f
    rw [if_pos (show (⟨#[10]⟩ : ByteArray).size = 1 from rfl), Option.bind_some, if_pos (by omega), Option.bind_some, hs]
    have e1 : Lib.countByte (a.data.toList.take at_.toNat) ((⟨#[10]⟩ : ByteArray).data.toList.getD 0 0) = (a.data.toList.take at_.toNat).count 10 := rfl
    rw [e1]
    have e2 : Lib.lastIndexByte (a.extract 0 at_.toNat) 10 = Lib.lastIdx (a.extract 0 at_.toNat) 10 at_.toNat := by unfold Lib.lastIndexByte; rw [hsz]
    rw [e2]
    have e4 : at_ - Lib.lastIdx (a.extract 0 at_.toNat) 10 at_.toNat = ((placeL (a.data.toList.take at_.toNat)).2 : Int) := by omega
    have e5 : (1 : Int) + (((a.data.toList.take at_.toNat).count 10 : Nat) : Int) = ((placeL (a.data.toList.take at_.toNat)).1 : Int) := by omega
    rw [e4, e5, w64 _ (by omega), w64 _ (by omega)]
theorem sim_lPlace (a : ByteArray) (ha : Small a) (at_ : Int) : Sim Tryz.prog GL 31 [str a, i64 at_] [] (fun o τ => o = .ret (placeV a at_) ∧ τ = []) := by
  obtain ⟨r1, r2, r3, h1, h2⟩ := place_calc a ha at_
  rw [h2]
  refine sim_oldt [.int .i64 r1, .int .i64 r2, .int .i64 r3] ⟨_, _, Tryz.func31, rfl, rfl⟩ fun w0 g w vs hI hB hv => ?_
  have e := VRs.scalars (us := [.string a, .int .i64 at_]) hv
  subst e
  refine (lex_Place.calls 1 a at_ r1 r2 r3 w h1).mono ?_
  rintro e w' ⟨rfl, hd⟩
  exact ⟨rfl, hd.below⟩
theorem sim_sane : Sim Tryz.prog GL 11 [] [] (fun o τ => o = .ret (boo true) ∧ τ = []) :=
  sim_olds ⟨_, _, Tryz.func11, rfl, rfl⟩ fun w0 g w vs hI hB hv => by
    have e := VRs.scalars (us := []) hv
    subst e
    exact madrigallaw01_sane.calls true w rfl (hI.below hB)
theorem sim_few (L : List Tz) (K : Nat) (b : Bool) (hF : madrigallaw01_few.f K (L.map toZ) = some b) : Sim Tryz.prog GL 23 [.sl 5 (ezs L)] [] (fun o τ => o = .ret (boo b) ∧ τ = []) :=
  sim_olds ⟨_, _, Tryz.func23, rfl, rfl⟩ fun w0 g w vs hI hB hv => by
    obtain ⟨v, rfl⟩ : ∃ v, vs = [v] := by
      match vs, hv.1 with
      | [v], _ => exact ⟨v, rfl⟩
    obtain ⟨A, c, rfl, hc, hC⟩ := vr_toks (hv.2 0 v _ rfl rfl)
    exact madrigallaw01_few.calls K A c (L.map toZ) b w hC hc hF
theorem sim_lright (L : List Tz) (hl : L.length ≤ 2000) (hf : ∀ x ∈ L, FineZ x) : Sim Tryz.prog GL 49 [.sl 5 (ezs L)] [] (fun o τ => o = .ret (boo (L.all fun t => rightB t.tok)) ∧ τ = []) :=
  sim_olds ⟨_, _, Tryz.func49, rfl, rfl⟩ fun w0 g w vs hI hB hv => by
    obtain ⟨v, rfl⟩ : ∃ v, vs = [v] := by
      match vs, hv.1 with
      | [v], _ => exact ⟨v, rfl⟩
    obtain ⟨A, c, rfl, hc, hC⟩ := vr_toks (hv.2 0 v _ rfl rfl)
    obtain ⟨b, h1, h2⟩ := rights_of (L.map toZ) (fun x hx => by obtain ⟨t, ht, rfl⟩ := List.mem_map.1 hx; exact fine_of (hf t ht))
    rw [toks_map, ← all_right] at h2
    have hb : b = L.all fun t => rightB t.tok := Bool.eq_iff_iff.2 h2
    refine lex_right.calls A c (L.map toZ) _ w hC hc ?_ (hI.below hB)
    unfold lex_right.f
    rw [if_pos (by rw [List.length_map]; omega), h1, hb]
theorem sim_lapart (x y : Tz) (hx : FineZ x) (hy : FineZ y) (rx : rightB x.tok = true) (ry : rightB y.tok = true) : Sim Tryz.prog GL 50 [ez x, ez y] [] (fun o τ => o = .ret (boo (apartB x.tok y.tok)) ∧ τ = []) :=
  sim_olds ⟨_, _, Tryz.func50, rfl, rfl⟩ fun w0 g w vs hI hB hv => by
    obtain ⟨u, v, rfl⟩ : ∃ u v, vs = [u, v] := by
      match vs, hv.1 with
      | [u, v], _ => exact ⟨u, v, rfl⟩
    have hag : ∀ (u : Value) (t : Tz), VR g w u (ez t) → u = .agg #[.int .i64 t.kd, .int .i64 t.n, .string t.s, .int .i64 t.b, .int .i64 t.e] := by
      intro u t h
      cases h with
      | ag xs cs hl h h3 =>
        congr 1
        apply Array.ext'
        have : VRs g w xs.toList ([.int .i64 t.kd, .int .i64 t.n, .string t.s, .int .i64 t.b, .int .i64 t.e].map .sc) := ⟨by simpa using hl, fun i x y hx hy => h i x y (by simpa using hx) hy⟩
        exact VRs.scalars this
    have e1 := hag u x (hv.2 0 u _ rfl rfl)
    have e2 := hag v y (hv.2 1 v _ rfl rfl)
    subst e1
    subst e2
    obtain ⟨b, h1, h2⟩ := apart_of (fine_of hx) (fine_of hy) (rightB_iff.1 rx) (rightB_iff.1 ry)
    have hb : b = apartB x.tok y.tok := Bool.eq_iff_iff.2 (h2.trans apartB_iff.symm)
    rw [← hb]
    exact lex_apart.calls _ _ _ _ _ _ _ _ _ _ b w h1 (hI.below hB)
end Go.Proofs.YtglgppkjgodlkaaGreatDoor.J
