/- A slice of operations that came in, opened. Conditions: none. -/
import Derived.Test.YtjcocblohiglbaaGreatDoorP2
import Derived.Test.YtjcocblohiglbaaGreatDoorLX
import Derived.Deep.Slices
import Derived.Lib.SmallJoins
namespace Go.Proofs.YtjcocblohiglbaaGreatDoor
open Go.ChangeShapes Go.WideShapes Go.ChangeAt Go.RowKit Go.Deep Go.Dp
set_option linter.unusedVariables false
set_option linter.unusedSimpArgs false
/-- The cells that there are. -/
def lies (w : World) (b o : Nat) : Prop := (w.cell? ⟨b, o, none⟩).isSome = true
theorem plain_addr {w : World} {a : Addr} {u : Value} (h : w.cell? (a.add 0) = some u) : ∃ b o, a = ⟨b, o, none⟩ := by
  obtain ⟨b, o, sp⟩ := a
  cases sp with
  | none => exact ⟨b, o, rfl⟩
  | some s =>
    exfalso
    rw [show (⟨b, o, some s⟩ : Addr).add 0 = ⟨b, o, some s⟩ from if_pos rfl] at h
    unfold World.cell? at h
    split at h
    · rw [if_pos (show (some s).isSome = true from rfl)] at h
      cases h
    · cases h
section
variable {H : Type} {enc : TypeId × Value → H} {W : World} {base : Nat} {sp : Nat → Bool} {held : Bool}
set_option maxRecDepth 100000 in
/-- Texts. -/
theorem open_texts {fuel : Nat} {v : Value} {x : DataW H × List MemPlace} (h : DataW.trod enc Tryz.prog W base sp held fuel 36 [v] = some x) :
    ∃ ss : List ByteArray, VR (stay (lies W)) W v (.sl 1 (ss.map fun s => str s)) ∧ v.oneCell' = true := by
  rcases open_slice1 Tryz.underlying36 (by kernel_rfl) h with ⟨h0, _⟩ | ⟨a, len, cap, m, n, V, D, Pl, hcs, hb, hl, hm, hmm, hxx, hx⟩
  · injection h0 with h0 _
    subst h0
    exact ⟨[], .nl 1 _ _ (Nat.zero_le _), rfl⟩
  · injection hcs with hcs _
    subst hcs
    have hlm : len ≤ m := by rw [hmm]; split <;> omega
    have each : ∀ i, i < len → ∃ s : ByteArray, W.cell? (a.add i) = some (.string s) := by
      intro i hi
      obtain ⟨h1, h2⟩ := hx i (by omega)
      obtain ⟨s, e, _, _⟩ := DataW.trod_string Tryz.underlying9 h2
      simp at e
      rw [e] at h1
      exact ⟨s, h1⟩
    by_cases h0 : len = 0
    · subst h0
      exact ⟨[], .nl 1 _ _ hm, rfl⟩
    · obtain ⟨q, hq⟩ := choose_lt each
      obtain ⟨b, o, rfl⟩ := plain_addr (hq 0 (by omega))
      refine ⟨(List.range len).map q, .sl b o len cap 1 _ (fun i _ => .string (q i)) (by simp) hl hm (fun i j hi hj => ?_) (fun i j x y hx hy => ?_) (fun x hx => ?_), rfl⟩
      · obtain rfl : j = 0 := by omega
        have := hq i hi
        rw [add_addr] at this
        rw [Nat.mul_one, Nat.add_zero]
        exact ⟨this, by show (W.cell? _).isSome = true; rw [this]; rfl⟩
      · rw [List.getElem?_map, List.getElem?_map] at hx
        rcases Nat.lt_or_ge i len with hi | hi
        · rw [List.getElem?_range hi] at hx
          cases hx
          match j, hy with
          | 0, hy => cases hy; exact .sc _
        · rw [List.getElem?_eq_none (by simpa using hi)] at hx
          cases hx
      · obtain ⟨s, _, rfl⟩ := List.mem_map.1 hx
        exact ⟨rfl, fun y hy => by
          have hy : y ∈ [str s] := hy
          rw [List.mem_singleton] at hy
          subst hy
          rfl⟩
set_option maxRecDepth 100000 in
/-- Operations. -/
theorem open_ops {fuel : Nat} {A : Option Addr} {len cap : Nat} {x : DataW H × List MemPlace} (h : DataW.trod enc Tryz.prog W base sp held fuel 22 [.slice A len cap] = some x) :
    ∃ ops : List Mx, ops.length ≤ 9223372036854775807 ∧ VR (stay (lies W)) W (.slice A len cap) (.sl 5 (ops.map emix)) := by
  have hmx : maxLen ≤ 9223372036854775807 := by decide
  rcases open_slice Tryz.underlying22 h with ⟨h0, _⟩ | ⟨a, len', cap', m, n, D, Pl, hcs, hb, hl, hm, hmm, hxx, hx⟩
  · injection h0 with h0 _
    injection h0 with h1 h2 h3
    subst h1 h2 h3
    exact ⟨[], Nat.zero_le _, .nl 5 _ _ (Nat.zero_le _)⟩
  · injection hcs with hcs _
    injection hcs with h1 h2 h3
    subst h1 h2 h3
    have hlm : len ≤ m := by rw [hmm]; split <;> omega
    have ce : Tryz.prog.cellsOf 40 = 5 := by kernel_rfl
    have ci : Tryz.prog.cellsOf 3 = 1 := by kernel_rfl
    have cb : Tryz.prog.cellsOf 4 = 1 := by kernel_rfl
    have cs_ : Tryz.prog.cellsOf 36 = 1 := by kernel_rfl
    have each : ∀ i, i < len → ∃ t : Value × Mx, (VR (stay (lies W)) W t.1 (.sl 1 (t.2.parts.map fun s => str s)) ∧ t.1.oneCell' = true) ∧ ∀ j u, [t.1, .bool t.2.left, .bool t.2.right, .int .i64 t.2.prio, .int .i64 t.2.side][j]? = some u → W.cell? (a.add (i * 5 + j)) = some u := by
      intro i hi
      obtain ⟨cs', h1, h2⟩ := hx i (by omega)
      rw [ce] at h1
      obtain ⟨_, hlen, hcell⟩ := World.cells?_some h1
      obtain ⟨xs, k, hk, hxy, _, hxl, hf⟩ := DataW.trod_struct Tryz.underlying40 h2
      match cs', hlen with
      | [v0, v1, v2, v3, v4], _ =>
        match xs, hxl with
        | [y0, y1, y2, y3, y4], _ =>
          have g0 := hf 0 _ rfl
          have g1 := hf 1 _ rfl
          have g2 := hf 2 _ rfl
          have g3 := hf 3 _ rfl
          have g4 := hf 4 _ rfl
          simp [ci, cs_, cb] at g0 g1 g2 g3 g4
          obtain ⟨ss, hss, hone⟩ := open_texts g0
          obtain ⟨n1, e1, _⟩ := DataW.trod_bool Tryz.underlying4 g1
          obtain ⟨n2, e2, _⟩ := DataW.trod_bool Tryz.underlying4 g2
          obtain ⟨n3, e3, _, b3⟩ := DataW.trod_int Tryz.underlying3 g3
          obtain ⟨n4, e4, _, b4⟩ := DataW.trod_int Tryz.underlying3 g4
          simp at e1 e2 e3 e4
          subst e1 e2 e3 e4
          refine ⟨(v0, ⟨ss, n1, n2, n3, n4⟩), ⟨hss, hone⟩, fun j u hj => ?_⟩
          have hj5 : j < 5 := by
            rcases Nat.lt_or_ge j 5 with h | h
            · exact h
            · rw [List.getElem?_eq_none (by simpa using h)] at hj; cases hj
          have e := hcell j hj5
          rw [Deep.add_add] at e
          rw [e]
          exact hj
    by_cases h0 : len = 0
    · subst h0
      exact ⟨[], Nat.zero_le _, .nl 5 _ _ hm⟩
    · haveI : Inhabited (Value × Mx) := ⟨(.bool true, ⟨[], true, true, 0, 0⟩)⟩
      obtain ⟨q, hq⟩ := choose_lt each
      obtain ⟨b, o, rfl⟩ := plain_addr ((hq 0 (by omega)).2 0 _ rfl)
      refine ⟨((List.range len).map q).map (·.2), by simp; omega, .sl b o len cap 5 _ (fun i j => [(q i).1, .bool (q i).2.left, .bool (q i).2.right, .int .i64 (q i).2.prio, .int .i64 (q i).2.side].getD j (.bool true)) (by simp) hl hm (fun i j hi hj => ?_) (fun i j x y hx hy => ?_) (fun x hx => ?_)⟩
      · have := (hq i hi).2 j _ (List.getElem?_eq_getElem (by simpa using hj))
        rw [add_addr] at this
        rw [List.getD_eq_getElem?_getD, List.getElem?_eq_getElem (by simpa using hj)]
        exact ⟨this, by show (W.cell? _).isSome = true; rw [this]; rfl⟩
      · rw [List.getElem?_map, List.getElem?_map, List.getElem?_map] at hx
        rcases Nat.lt_or_ge i len with hi | hi
        · rw [List.getElem?_range hi] at hx
          cases hx
          match j, hy with
          | 0, hy => cases hy; exact (hq i hi).1.1
          | 1, hy => cases hy; exact .sc _
          | 2, hy => cases hy; exact .sc _
          | 3, hy => cases hy; exact .sc _
          | 4, hy => cases hy; exact .sc _
        · rw [List.getElem?_eq_none (by simpa using hi)] at hx
          cases hx
      · obtain ⟨m, _, rfl⟩ := List.mem_map.1 hx
        refine ⟨rfl, fun y hy => ?_⟩
        have hy : y ∈ [AV.sl 1 (m.parts.map fun s => str s), boo m.left, boo m.right, i64 m.prio, i64 m.side] := hy
        simp only [List.mem_cons, List.not_mem_nil, or_false] at hy
        rcases hy with rfl | rfl | rfl | rfl | rfl <;> rfl
end
end Go.Proofs.YtjcocblohiglbaaGreatDoor
