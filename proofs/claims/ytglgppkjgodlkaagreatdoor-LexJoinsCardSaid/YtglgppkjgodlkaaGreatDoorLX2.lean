/- A slice of tokens that came in, opened: its cells, as the walks read them. Conditions: none. -/
import Derived.Test.YtglgppkjgodlkaaGreatDoorLX
import Derived.Test.YtglgppkjgodlkaaGreatDoorP0
import Derived.Deep.Slices
import Derived.Lib.SmallJoins
namespace Go.Proofs.YtglgppkjgodlkaaGreatDoor
open Go.ChangeShapes Go.WideShapes Go.ChangeAt Go.RowKit Go.Deep Go.Proofs.YtglgppkjgodlkaaGreatDoor.P Go.Proofs.YtglgppkjgodlkaaGreatDoorW.PrintWords
set_option linter.unusedVariables false
set_option linter.unusedSimpArgs false

/-- numbers of their kinds, texts no longer than memory -/
def TokOk (t : S38) : Prop := (-9223372036854775808 ≤ t.f0 ∧ t.f0 ≤ 9223372036854775807) ∧ (-9223372036854775808 ≤ t.f1 ∧ t.f1 ≤ 9223372036854775807) ∧ t.f2.size ≤ maxLen ∧ (-9223372036854775808 ≤ t.f3 ∧ t.f3 ≤ 9223372036854775807) ∧ (-9223372036854775808 ≤ t.f4 ∧ t.f4 ≤ 9223372036854775807)
theorem wf64 {n : Int} (h : (Lit.int .i64 n).wf = true) : -9223372036854775808 ≤ n ∧ n ≤ 9223372036854775807 := by
  simp [Lit.wf, IntKind.min, IntKind.max, IntKind.signed, IntKind.bits] at h
  omega
theorem weights_mem_all {H : Type} {P : Program} {e : TypeId} : ∀ {ds : List (DataW H)} {d : DataW H}, d ∈ ds → ∀ n ∈ d.weights P e, n ∈ DataW.weightsAll P e ds
  | d0 :: ds, d, hd, n, hn => by
    simp only [DataW.weightsAll, List.mem_append]
    rcases List.mem_cons.1 hd with rfl | hd
    · exact .inl hn
    · exact .inr (weights_mem_all hd n hn)
section
variable {H : Type} {enc : TypeId × Value → H} {W : World} {base : Nat} {sp : Nat → Bool} {held : Bool}
set_option maxRecDepth 100000 in
theorem open_toks {fuel : Nat} {A : Option Addr} {len cap : Nat} {x : DataW H × List MemPlace} (h : DataW.trod enc Tryz.prog W base sp held fuel 24 [.slice A len cap] = some x) :
    ∃ ps : List S38, ps.length = len ∧ len ≤ cap ∧ cap ≤ maxLen ∧ Kd.C k38 W A len ps ∧ ∀ t ∈ ps, TokOk t ∧ t.f2.size ∈ DataW.weights Tryz.prog 24 x.1 := by
  rcases open_slice Tryz.underlying24 h with ⟨h0, _⟩ | ⟨a, len', cap', m, n, D, Pl, hcs, hb, hl, hm, hmm, hxx, hx⟩
  · injection h0 with h0 _
    injection h0 with h1 h2 h3
    subst h1 h2 h3
    exact ⟨[], rfl, Nat.le_refl _, Nat.zero_le _, ⟨rfl, by omega, fun h => absurd h (by omega)⟩, fun t ht => by cases ht⟩
  · injection hcs with hcs _
    injection hcs with h1 h2 h3
    subst h1 h2 h3
    have hlm : len ≤ m := by rw [hmm]; split <;> omega
    have ce : Tryz.prog.cellsOf 38 = 5 := by kernel_rfl
    have ci : Tryz.prog.cellsOf 3 = 1 := by kernel_rfl
    have cs_ : Tryz.prog.cellsOf 9 = 1 := by kernel_rfl
    have each : ∀ i, i < len → ∃ t : S38, TokOk t ∧ (t.f2.size ∈ DataW.weights Tryz.prog 38 (D i)) ∧ ∀ j u, [Value.int .i64 t.f0, .int .i64 t.f1, .string t.f2, .int .i64 t.f3, .int .i64 t.f4][j]? = some u → W.cell? (a.add (i * 5 + j)) = some u := by
      intro i hi
      obtain ⟨cs', h1, h2⟩ := hx i (by omega)
      rw [ce] at h1
      obtain ⟨_, hlen, hcell⟩ := World.cells?_some h1
      obtain ⟨xs, k, hk, hxy, _, hxl, hf⟩ := DataW.trod_struct Tryz.underlying38 h2
      match cs', hlen with
      | [v0, v1, v2, v3, v4], _ =>
        match xs, hxl with
        | [y0, y1, y2, y3, y4], _ =>
          have g0 := hf 0 _ rfl
          have g1 := hf 1 _ rfl
          have g2 := hf 2 _ rfl
          have g3 := hf 3 _ rfl
          have g4 := hf 4 _ rfl
          simp [ci, cs_] at g0 g1 g2 g3 g4
          obtain ⟨n0, e0, _, b0⟩ := DataW.trod_int Tryz.underlying3 g0
          obtain ⟨n1, e1, _, b1⟩ := DataW.trod_int Tryz.underlying3 g1
          obtain ⟨n2, e2, w2, b2⟩ := DataW.trod_string Tryz.underlying9 g2
          obtain ⟨n3, e3, _, b3⟩ := DataW.trod_int Tryz.underlying3 g3
          obtain ⟨n4, e4, _, b4⟩ := DataW.trod_int Tryz.underlying3 g4
          simp at e0 e1 e2 e3 e4
          subst e0 e1 e2 e3 e4
          have hD : D i = .agg [y0.1, y1.1, y2.1, y3.1, y4.1] := (Prod.mk.inj hxy).1
          have hw : n2.size ∈ DataW.weights Tryz.prog 38 (D i) := by
            rw [hD, w2]
            simp only [DataW.weights, Tryz.underlying38]
            refine DataW.weights_mem_each (j := 2) (t := 9) (d := .lit (.string n2.data.toList)) rfl rfl _ ?_
            simp [DataW.weights]
          refine ⟨⟨n0, n1, n2, n3, n4⟩, ⟨wf64 b0, wf64 b1, b2, wf64 b3, wf64 b4⟩, hw, fun j u hj => ?_⟩
          have hj5 : j < 5 := by
            rcases Nat.lt_or_ge j 5 with h | h
            · exact h
            · rw [List.getElem?_eq_none (by simpa using h)] at hj; cases hj
          have e := hcell j hj5
          rw [Deep.add_add] at e
          rw [e]
          exact hj
    haveI : Inhabited S38 := ⟨z38⟩
    obtain ⟨q, hq⟩ := choose_lt each
    have hml : maxLen ≤ 9223372036854775807 := by decide
    refine ⟨(List.range len).map q, by simp, hl, hm, ⟨by simp, by omega, fun _ => ⟨a, rfl, fun j p hp => ?_⟩⟩, fun t ht => ?_⟩
    · rcases Nat.lt_or_ge j len with hj | hj
      · rw [List.getElem?_map, List.getElem?_range hj] at hp
        injection hp with hp
        subst hp
        exact ⟨_, rfl, k38_mk W (q j), fun i u hu => (hq j hj).2.2 i u hu⟩
      · rw [List.getElem?_eq_none (by simpa using hj)] at hp; cases hp
    · obtain ⟨i, hi, rfl⟩ := List.mem_map.1 ht
      have hi2 := List.mem_range.1 hi
      refine ⟨(hq i hi2).1, ?_⟩
      rw [hxx]
      simp only [DataW.weights, Tryz.underlying24]
      refine List.mem_cons_of_mem _ (List.mem_append_left _ (weights_mem_all (List.mem_map.2 ⟨i, hi, rfl⟩) _ (hq i hi2).2.1))
end
end Go.Proofs.YtglgppkjgodlkaaGreatDoor
