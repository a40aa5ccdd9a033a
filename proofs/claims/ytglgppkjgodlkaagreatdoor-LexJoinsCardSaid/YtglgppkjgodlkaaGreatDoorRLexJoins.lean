/- The row of the law LexJoins and its tied card, out of its Pure and its walk. -/
import Derived.Test.YtglgppkjgodlkaaGreatDoorRows
import Derived.Test.YtglgppkjgodlkaaGreatDoorCards
import Derived.Test.YtglgppkjgodlkaaGreatDoorTie
import Derived.Test.YtglgppkjgodlkaaGreatDoorLX
import Derived.Test.YtglgppkjgodlkaaGreatDoorLX2
import Derived.WalkKit
import Derived.ProofKit
import Derived.OpenShut
import Derived.ShutString
import Derived.ChangeOld
import Derived.Below
import Derived.SizedLaws
import Derived.SevenTiedAt
import Derived.LaidMore
import Derived.Stop.Joined
import Derived.Test.YtglgppkjgodlkaaGreatDoorJN
/- The law LexJoins, entered from a world. Conditions: none. -/
namespace Go.Proofs.YtglgppkjgodlkaaGreatDoor
open Go.Dp
open Go.RowKit Go.Proofs.YtglgppkjgodlkaaGreatDoorW.PrintWords Go.Proofs.YtglgppkjgodlkaaGreatDoor.P
set_option linter.unusedVariables false
set_option linter.unusedSimpArgs false
def ofS (x : S38) : J.Tz := ⟨x.f0, x.f1, x.f2, x.f3, x.f4⟩
/-- The cells of the list that is given. -/
def cellsAt (A : Option Addr) (n : Nat) (b o : Nat) : Prop := ∃ k, k < n * 5 ∧ A = some ⟨b, o - k, none⟩ ∧ k ≤ o
theorem first_plain {w : World} {A : Option Addr} {l : List S38} (hC : Kd.C k38 w A l.length l) (hne : 0 < l.length) : ∃ b o, A = some ⟨b, o, none⟩ ∧ ∀ (j : Nat) (x : S38), l[j]? = some x → ∀ i u, [Value.int .i64 x.f0, .int .i64 x.f1, .string x.f2, .int .i64 x.f3, .int .i64 x.f4][i]? = some u → w.cell? ⟨b, o + (j * 5 + i), none⟩ = some u := by
  obtain ⟨ad, rfl, hc⟩ := hC.2.2 hne
  have hcell : ∀ (j : Nat) (x : S38), l[j]? = some x → ∀ i u, [Value.int .i64 x.f0, .int .i64 x.f1, .string x.f2, .int .i64 x.f3, .int .i64 x.f4][i]? = some u → w.cell? (ad.add (j * 5 + i)) = some u := by
    intro j x hj i u hu
    obtain ⟨c, _, hr, hcc⟩ := hc j x hj
    rw [k38_open hr] at hcc
    exact hcc i u hu
  obtain ⟨b, o, sp⟩ := ad
  have h0 := hcell 0 l[0] (List.getElem?_eq_getElem hne) 0 _ rfl
  have hsp : sp = none := by
    cases sp with
    | none => rfl
    | some s =>
      exfalso
      unfold Addr.add World.cell? at h0
      rw [if_pos rfl] at h0
      split at h0
      · simp at h0
      · cases h0
  subst hsp
  refine ⟨b, o, rfl, fun j x hj i u hu => ?_⟩
  have := hcell j x hj i u hu
  rwa [add_addr] at this
theorem walk_LexJoins (A : Option Addr) (c : Nat) (l : List S38) (a : ByteArray) (p : Int) (w : World) (hC : Kd.C k38 w A l.length l) (hc : l.length ≤ c) (hcm : c ≤ maxLen) (ht : ∀ x ∈ l, TokOk x) (hs : ∀ x ∈ l, x.f2.size ≤ 140737488351232) (ha : a.size ≤ 140737488351232) (hp : -9223372036854775808 ≤ p ∧ p ≤ 9223372036854775807) (hG : GL w) :
    Calls Tryz.prog 8 #[.slice A l.length c, .string a, .int .i64 p] w fun e w' => e = .returned (.bool true) ∧ Below w.heap.size w w' := by
  have hm : maxLen = 9223372036854775807 := by decide
  have hlen : (l.map ofS).length = l.length := List.length_map ..
  have hsim := J.sim_law (l.map ofS) a p (by omega)
    (fun t h => by obtain ⟨x, hx, rfl⟩ := List.mem_map.1 h; exact (ht x hx).2.1)
    (fun t h => by obtain ⟨x, hx, rfl⟩ := List.mem_map.1 h; exact hs x hx) ha
  have hv : ∃ S : Nat → Nat → Prop, (∀ b o, S b o → (w.cell? ⟨b, o, none⟩).isSome = true) ∧ VR (stay S) w (.slice A l.length c) (.sl 5 (J.ezs (l.map ofS))) := by
    by_cases hne : 0 < l.length
    · obtain ⟨b0, o0, rfl, hcell⟩ := first_plain hC hne
      refine ⟨fun b o => b = b0 ∧ ∃ (j : Nat) (x : S38) (i : Nat) (u : Value), l[j]? = some x ∧ [Value.int .i64 x.f0, .int .i64 x.f1, .string x.f2, .int .i64 x.f3, .int .i64 x.f4][i]? = some u ∧ o = o0 + (j * 5 + i), ?_, ?_⟩
      · rintro b o ⟨rfl, j, x, i, u, h1, h2, rfl⟩
        rw [hcell j x h1 i u h2]; rfl
      · have hrow : ∀ (l : List S38) (g : Gh), RowR g w (l.map fun x => [Value.int .i64 x.f0, .int .i64 x.f1, .string x.f2, .int .i64 x.f3, .int .i64 x.f4]).flatten 5 (J.ezs (l.map ofS)) := by
          intro l g
          have := row_sc g w 5 (l.map fun x => [Value.int .i64 x.f0, .int .i64 x.f1, .string x.f2, .int .i64 x.f3, .int .i64 x.f4]) (fun c hc => by
            obtain ⟨x, _, rfl⟩ := List.mem_map.1 hc
            refine ⟨rfl, fun v hv => ?_⟩
            simp only [List.mem_cons, List.not_mem_nil, or_false] at hv
            rcases hv with rfl | rfl | rfl | rfl | rfl <;> rfl)
          rw [List.map_map] at this
          rw [J.ezs, List.map_map]
          exact this
        have hget : ∀ (l : List S38) (n : Nat), n < l.length * 5 → ∃ x u, l[n / 5]? = some x ∧ [Value.int .i64 x.f0, .int .i64 x.f1, .string x.f2, .int .i64 x.f3, .int .i64 x.f4][n % 5]? = some u ∧ (l.map fun x => [Value.int .i64 x.f0, .int .i64 x.f1, .string x.f2, .int .i64 x.f3, .int .i64 x.f4]).flatten[n]? = some u := by
          intro l
          induction l with
          | nil => intro n hn; simp at hn
          | cons y l ih =>
            intro n hn
            simp only [List.length_cons] at hn
            by_cases h5 : n < 5
            · have e1 : n / 5 = 0 := by omega
              have e2 : n % 5 = n := by omega
              rw [e1, e2]
              obtain ⟨u, hu⟩ : ∃ u, [Value.int .i64 y.f0, .int .i64 y.f1, .string y.f2, .int .i64 y.f3, .int .i64 y.f4][n]? = some u := ⟨_, List.getElem?_eq_getElem (by simpa using h5)⟩
              refine ⟨y, u, rfl, hu, ?_⟩
              rw [List.map_cons, List.flatten_cons, List.getElem?_append_left (by simpa using h5)]
              exact hu
            · obtain ⟨x, u, h1, h2, h3⟩ := ih (n - 5) (by omega)
              refine ⟨x, u, ?_, ?_, ?_⟩
              · rw [show n / 5 = (n - 5) / 5 + 1 by omega]; exact h1
              · rw [show n % 5 = (n - 5) % 5 by omega]; exact h2
              · rw [List.map_cons, List.flatten_cons, List.getElem?_append_right (by simp; omega)]
                exact h3
        refine VR.of_cells (hrow l _) (by rw [J.ezs_length, hlen]) hc hcm (fun j hj => ?_)
        have hfl : (l.map fun x => [Value.int .i64 x.f0, .int .i64 x.f1, .string x.f2, .int .i64 x.f3, .int .i64 x.f4]).flatten.length = l.length * 5 := by
          have := (hrow l (stay fun _ _ => False)).len
          rw [this, J.ezs_length, hlen]
        obtain ⟨x, u, h1, h2, h3⟩ := hget l j (by omega)
        have he : j / 5 * 5 + j % 5 = j := by omega
        have := hcell (j / 5) x h1 (j % 5) u h2
        rw [he] at this
        exact ⟨this.trans h3.symm, rfl, j / 5, x, j % 5, u, h1, h2, by rw [he]⟩
    · have hl : l = [] := List.eq_nil_of_length_eq_zero (by omega)
      subst hl
      exact ⟨fun _ _ => False, fun b o h => h.elim, .nl 5 A c hcm⟩
  obtain ⟨S, hS, hv⟩ := hv
  refine (Sim.enter hsim hG S hS (vs := [.slice A l.length c, .string a, .int .i64 p]) (VRs.cons hv (VRs.cons (.sc _) (VRs.cons (.sc _) (VRs.nil _ _))))).mono ?_
  rintro e w' ⟨hB, g', σ', o, ho, rfl, rfl⟩
  refine ⟨?_, hB⟩
  cases e with
  | returned v => rw [show v = .bool true from VR.bool ho]
  | panicked c => exact ho.elim
  | outgrown => exact ho.elim
end Go.Proofs.YtglgppkjgodlkaaGreatDoor
namespace Go.Proofs.YtglgppkjgodlkaaGreatDoor.lexJoins
open Go.ChangeShapes Go.WideShapes Go.ChangeAt Go.RowKit Go.Joins Go.Deep
open Go.ChangeMaps (open_string shut_string)
set_option linter.unusedVariables false
theorem own : ownKnob Tryz.prog.godebug = none := by kernel_rfl
theorem laidOut : laidOutB Tryz.prog = true := by kernel_rfl
set_option maxRecDepth 100000 in
theorem lifted (os : Os) (started : os.Started) (H : Type) (enc : TypeId × Value → H) :
    ReturnsInHanded {} Tryz.checked os 8 .any (fun w args => (Rows.lexJoinsSpec.pre enc Tryz.prog Tryz.f8 [] false w args ∧ laidMetH Tryz.prog laidL w) ∧ sizedMet enc Tryz.prog Tryz.f8 (OpenSpec.ofChange Rows.lexJoinsSpec) false w args)
      (Rows.lexJoinsSpec.post enc Tryz.prog Tryz.f8 false true false false) := by
  refine returnsInHanded_of_change_and (C := Tryz.checked) (X := fun w _ => laidMetH Tryz.prog laidL w) (fun _ _ _ hh h => h.of_heap hh) own started (by kernel_rfl) Tryz.func8
    (ChangeSpec.witness_shaped (enc := enc) (C := Tryz.checked) (os := os) (X := fun w _ => laidMetH Tryz.prog laidL w) false (World.doorLaid Tryz.prog 4000 os) #[.slice none 0 0, .string ByteArray.empty, .int .i64 0] 12 rfl (World.shaped_of_RefB (by kernel_rfl) (by kernel_rfl)) (by kernel_rfl) (by kernel_rfl) (by kernel_rfl) (door_met os _)) ?_
  intro W base args ds gs before hval0 hW _ hsz0 hL _
  have hG : GL W := gl_of hL
  clear hL
  have hsz : (DataW.weightsEach Tryz.prog (Tryz.f8.params.toList ++ Rows.lexJoinsSpec.plain.varTypes Tryz.prog) (ds ++ gs)).all (· ≤ reachBytes) = true := hsz0
  have hval : ∀ (j : Nat) t v, Tryz.f8.params[j]? = some t → args[j]? = some v → Value.okWide Tryz.prog W .any base t v := hval0
  have hW' := hW
  obtain ⟨p, q, hA0, hV, rfl, hfz, hnd⟩ := hW
  have hA : DataW.TrodAll enc Tryz.prog W 0 (fun _ => true) true Tryz.f8.params.toList args.toList ds p := hA0
  rw [Tryz.params8] at hA hval hsz
  obtain ⟨v0, vs0, d0, ds0, p0, q0, hargs, rfl, rfl, h0, r0⟩ := trodAll_cons hA
  obtain ⟨v1, vs1, d1, ds1, p1, q1, rfl, rfl, rfl, h1, r1⟩ := trodAll_cons r0
  obtain ⟨v2, vs2, d2, ds2, p2, q2, rfl, rfl, rfl, h2, r2⟩ := trodAll_cons r1
  obtain ⟨rfl, rfl, rfl⟩ := trodAll_nil r2
  obtain rfl : args = #[v0, v1, v2] := by cases args; simp_all
  obtain ⟨rfl, rfl⟩ := trodVars_none hV
  obtain ⟨b0, len0, cap0, rfl⟩ := okWide_slice Tryz.underlying24 (hval 0 24 v0 rfl rfl)
  have k0 := h0
  have lt0 : ∀ x ∈ p0, x.block < W.heap.size := by obtain ⟨m, hm⟩ := k0; exact DataW.trod_lt m _ _ _ hm
  obtain ⟨a0, n0, lc0, cm0, c0, t0⟩ := open_toks (Classical.choose_spec h0)
  subst n0
  have s0 : ∀ t ∈ a0, t.f2.size ≤ 140737488351232 := fun t ht => by have z := List.all_eq_true.1 hsz _ (DataW.weights_mem_each (j := 0) (t := 24) rfl rfl _ (t0 t ht).2); exact of_decide_eq_true z
  obtain ⟨a1, rfl, rfl, rfl, y1⟩ := open_string Tryz.underlying9 (hval 1 9 v1 rfl rfl) h1
  have w1 : a1.size ≤ 140737488351232 := by
    have z := sized_string hsz (j := 1) (t := 9) rfl rfl
    rw [Array.length_toList] at z
    exact z
  obtain ⟨a2, rfl, rfl, rfl, w2⟩ := open_int Tryz.underlying3 (hval 2 3 v2 rfl rfl) h2
  clear hA0 hval0 hsz0 hsz
  refine (walk_LexJoins b0 cap0 a0 a1 a2 W c0 lc0 cm0 (fun t ht => (t0 t ht).1) s0 w1 (wf64 w2) hG).mono fun e W' ⟨he, bel⟩ => ?_
  subst he
  exact ⟨_, rfl, _, _, _, [], _, [], hW', trodAll_mk1 (shut_bool Tryz.underlying4 _), (trodAll_cons_mk (Below.trod laidOut (by kernel_rfl) (of_decide_eq_true (by kernel_rfl)) k0 bel lt0) (trodAll_cons_mk (shut_string Tryz.underlying9 y1) (trodAll_cons_mk (shut_int Tryz.underlying3 w2) trodAll_mk0))), rfl, bel.frame _, fun h => by cases h⟩
theorem over : Rows.lexJoinsRow.holds Tryz.pinned (OpenSpec.ofChange Rows.lexJoinsSpec) :=
  OpenClaim.holds_of_wide 8 Tryz.f8 rfl rfl rfl rfl rfl rfl rfl ⟨rfl, rfl, rfl, rfl, rfl⟩ rfl rfl rfl rfl rfl (by kernel_rfl) Tryz.func8 (by kernel_rfl)
    (of_decide_eq_true (by kernel_rfl)) (by unfold Func.isWrapper; first | (rw [if_pos (by decide +kernel)]; kernel_rfl) | (rw [if_neg (by decide +kernel)]; exact ⟨rfl, rfl⟩))
    (fun os started H enc _ => lifted os started H enc)
/-- THE TIED CARD. -/
theorem card_holds : Rows.LexJoinsCardSaid :=
  Claim7.holds_tied_plain_at .later [] [.data, .data, .data, .sentinel, .sentinel, .listed, .data] true Rows.lexJoinsCard.stood.harness true
    over (fun _ h => by cases h) (by kernel_rfl) (fun _ h => by cases h) lexJoins_row_tie rfl ⟨rfl, rfl⟩ (by kernel_rfl) rfl
    (fun f fn hf hfn => by
      obtain rfl : f = 8 := Option.some.inj ((show Tryz.prog.funcNamed "madrigal/madrigallaw01.LexJoins" = some 8 by kernel_rfl).symm.trans hf) |>.symm
      obtain rfl : fn = Tryz.f8 := (Option.some.inj (Tryz.func8.symm.trans hfn)).symm
      exact ⟨by kernel_rfl, fun j t ht => by
        rw [Tryz.params8] at ht
        have hm : t ∈ [24, 9, 3] := by simpa using Array.mem_of_getElem? ht
        have hall : ([24, 9, 3].all fun u => !Tryz.prog.wantsStandIn u) = true := by kernel_rfl
        exact (show Tryz.prog.wantsStandIn t = false by simpa using List.all_eq_true.1 hall t hm)⟩)
    (by kernel_rfl)
#print axioms card_holds
end Go.Proofs.YtglgppkjgodlkaaGreatDoor.lexJoins
namespace Go.Proofs.YtglgppkjgodlkaaGreatDoor
/-- The card, under a short name, for the claim. -/
theorem lexJoins_card_holds : Rows.LexJoinsCardSaid := lexJoins.card_holds
end Go.Proofs.YtglgppkjgodlkaaGreatDoor
