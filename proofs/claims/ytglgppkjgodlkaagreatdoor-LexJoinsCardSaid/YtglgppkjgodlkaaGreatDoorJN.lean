/- The law LexJoins: its walk. Conditions: none. -/
import Derived.Test.YtglgppkjgodlkaaGreatDoorJM
import Derived.Test.YtglgppkjgodlkaaGreatDoorJO
import Derived.Test.YtglgppkjgodlkaaGreatDoorJL
import Derived.Test.YtglgppkjgodlkaaGreatDoorLU
import Derived.Test.YtglgppkjgodlkaaGreatDoorG8
namespace Go.Proofs.YtglgppkjgodlkaaGreatDoor.J
open Go.Dp Rl
open Go.RowKit Go.Proofs.YtglgppkjgodlkaaGreatDoorW.PrintWords Go.Proofs.YtglgppkjgodlkaaGreatDoor.P
set_option linter.unusedVariables false
set_option linter.unusedSimpArgs false
/-! #### few -/
def sumS : List S38 → Nat
  | [] => 0
  | x :: l => x.f2.size + sumS l
theorem sumS_mem : ∀ {l : List S38} {x : S38}, x ∈ l → x.f2.size ≤ sumS l
  | y :: l, x, h => by
    rw [sumS]
    rcases List.mem_cons.1 h with rfl | h
    · omega
    · have := sumS_mem h; omega
theorem few_long (l : List S38) (hl : 2000 < l.length) (hm : l.length ≤ 9223372036854775807) : ∀ (m i K : Nat) (n : Int), l.length - i = m → i ≤ l.length → m < K → madrigallaw01_few.l0 K l n l (l.length : Int) (i : Int) = some false := by
  intro m
  induction m with
  | zero =>
    intro i K n hmi hi hK
    obtain ⟨K, rfl⟩ : ∃ j, K = j + 1 := ⟨K - 1, by omega⟩
    rw [madrigallaw01_few.l0, if_neg (by omega), if_neg (by omega)]
  | succ m ih =>
    intro i K n hmi hi hK
    obtain ⟨K, rfl⟩ : ∃ j, K = j + 1 := ⟨K - 1, by omega⟩
    rw [madrigallaw01_few.l0, if_pos (by omega), if_pos (by omega), if_pos (by omega), w64 ((i : Int) + 1) (by omega), show (i : Int) + 1 = ((i + 1 : Nat) : Int) by omega]
    exact ih (i + 1) K _ (by omega) (by omega) (by omega)
theorem few_short (l : List S38) (hl : l.length ≤ 2000) (hs : ∀ x ∈ l, x.f2.size ≤ 140737488351232) : ∀ (m i n K : Nat), l.length - i = m → i ≤ l.length → m < K → n ≤ 140737488351232 * i → madrigallaw01_few.l0 K l (n : Int) l (l.length : Int) (i : Int) = some (decide (n + sumS (l.drop i) ≤ 20000)) := by
  intro m
  induction m with
  | zero =>
    intro i n K hmi hi hK hn
    obtain ⟨K, rfl⟩ : ∃ j, K = j + 1 := ⟨K - 1, by omega⟩
    rw [madrigallaw01_few.l0, if_neg (by omega), if_pos (by omega), List.drop_of_length_le (by omega), sumS]
    congr 1
    rw [decide_eq_decide]
    omega
  | succ m ih =>
    intro i n K hmi hi hK hn
    obtain ⟨K, rfl⟩ : ∃ j, K = j + 1 := ⟨K - 1, by omega⟩
    have hlt : i < l.length := by omega
    have hx := hs l[i] (List.getElem_mem hlt)
    rw [madrigallaw01_few.l0, if_pos (by omega), if_pos (by omega), if_pos (by omega), rd_lt l i hlt, List.drop_eq_getElem_cons hlt, sumS]
    generalize l[i].f2.size = z at *
    rw [w64 ((n : Int) + (z : Int)) (by omega), w64 ((i : Int) + 1) (by omega), show (i : Int) + 1 = ((i + 1 : Nat) : Int) by omega, show (n : Int) + (z : Int) = ((n + z : Nat) : Int) by omega, ih (i + 1) (n + z) K (by omega) (by omega) (by omega) (by omega), Nat.add_assoc]
theorem few_of (l : List S38) (hm : l.length ≤ 9223372036854775807) (hs : ∀ x ∈ l, x.f2.size ≤ 140737488351232) (K : Nat) (hK : l.length < K) : ∃ b, madrigallaw01_few.f K l = some b ∧ (b = true → l.length ≤ 2000 ∧ sumS l ≤ 20000) := by
  unfold madrigallaw01_few.f
  by_cases h : l.length ≤ 2000
  · have := few_short l h hs l.length 0 0 K (by omega) (by omega) hK (by omega)
    rw [show ((0 : Nat) : Int) = 0 from rfl, List.drop_zero] at this
    rw [this]
    exact ⟨_, rfl, fun h2 => ⟨h, by simpa using h2⟩⟩
  · have := few_long l (by omega) hm l.length 0 K 0 (by omega) (by omega) hK
    rw [show ((0 : Nat) : Int) = 0 from rfl] at this
    rw [this]
    exact ⟨false, rfl, fun h => by cases h⟩
theorem sum_le : ∀ (l : List S38), (∀ x ∈ l, Fine x) → Lex.sumT (l.map tk) ≤ sumS l + 20 * l.length
  | [], _ => Nat.zero_le _
  | x :: l, h => by
    have := sum_le l (fun y hy => h y (by simp [hy]))
    have := (h x (by simp)).len
    rw [List.map_cons, Lex.sumT, sumS, List.length_cons]
    omega
theorem vr_strs {g : Gh} {w : World} {v : Value} {L : List ByteArray} (h : VR g w v (.sl 1 (L.map fun s => str s))) : ∃ A c, v = .slice A L.length c ∧ L.length ≤ c ∧ Kd.C Kd.string w A L.length L := by
  have hml : (L.map fun s => str s).length = L.length := List.length_map ..
  rcases h.row with ⟨⟨a0, c0, rfl, _⟩, hn⟩ | ⟨b, o, cap, xs, rfl, hc, hm, hrow, hcell⟩
  · have hL : L = [] := by
      have := congrArg List.length hn
      rw [hml] at this
      exact List.eq_nil_of_length_eq_zero this
    subst hL
    exact ⟨a0, c0, rfl, Nat.zero_le _, rfl, Nat.zero_le _, fun h => absurd h (Nat.lt_irrefl 0)⟩
  · rw [hml] at hc ⊢
    refine ⟨_, cap, rfl, hc, rfl, by unfold maxLen at hm; omega, fun _ => ⟨_, rfl, fun j p hj => ?_⟩⟩
    refine ⟨[.string p], rfl, rfl, fun i u hu => ?_⟩
    have hg : (L.map fun s => str s)[j]? = some (str p) := by rw [List.getElem?_map, hj]; rfl
    have hy : (str p).cells[i]? = some (.sc u) := by
      match i, hu with
      | 0, hu => cases hu; rfl
    obtain ⟨v, h1, h2⟩ := hrow.val j (str p) i (.sc u) hg hy
    have hlt := (List.getElem?_eq_some_iff.1 h1).1
    show w.cell? ((⟨b, o, none⟩ : Addr).add (j * 1 + i)) = some u
    rw [add_addr, (hcell _ hlt).1, h1, h2.bool]
theorem sim_short (a : ByteArray) (ha : Small a) : Sim Tryz.prog GL 12 [.sl 1 [str a]] [] (fun o τ => o = .ret (boo (decide ((a.size : Int) ≤ 20000))) ∧ τ = []) :=
  sim_olds ⟨_, _, Tryz.func12, rfl, rfl⟩ fun w0 g w vs hI hB hv => by
    obtain ⟨v, rfl⟩ : ∃ v, vs = [v] := by
      match vs, hv.1 with
      | [v], _ => exact ⟨v, rfl⟩
    obtain ⟨A, c, rfl, hc, hC⟩ := vr_strs (L := [a]) (hv.2 0 v _ rfl rfl)
    refine (madrigallaw01_short.calls 2 A c [a] _ w hC hc (short_one 0 a ha)).mono ?_
    rintro e w' ⟨rfl, hd⟩
    exact ⟨rfl, hd.below⟩
set_option maxRecDepth 20000 in set_option maxHeartbeats 4000000 in
theorem sim_lApart (x y : Tz) (hx : FineZ x) (hy : FineZ y) : Sim Tryz.prog GL 35 [ez x, ez y] [] (fun o τ => o = .ret (.tu [boo (apartR x.tok y.tok).1, i64 (apartR x.tok y.tok).2]) ∧ τ = []) := by
  have hr := sim_lright [x, y] (by simp) (fun t ht => by rcases List.mem_cons.1 ht with rfl | ht; (· exact hx); (· rw [List.mem_singleton] at ht; subst ht; exact hy))
  have hal : ([x, y].all fun t => rightB t.tok) = (rightB x.tok && rightB y.tok) := by simp
  rw [hal] at hr
  have hez : Go.Proofs.YtglgppkjgodlkaaGreatDoor.J.ezs [x, y] = [ez x, ez y] := rfl
  rw [hez, ez_cells x, ez_cells y] at hr
  unfold apartR
  rw [ez_cells x, ez_cells y]
  cases hb : (rightB x.tok && rightB y.tok) with
  | false =>
    rw [hb] at hr
    refine sim_body Tryz.func35 rfl rfl rfl ?_
    repeat (any_goals (first | refine s_at ?_ | refine s_skip ?_ | refine s_off ?_ | refine s_offn ?_ | refine s_move ?_ | refine s_assign ?_ | refine s_load ?_ | refine s_loade ?_ | refine s_loadd ?_ | refine s_pick1 ?_ | refine s_pick0 ?_ | refine s_pure ?_ | refine s_nil ?_ | refine aw_seq ?_ | refine aw_seqr ?_ | refine aw_block ?_ | refine aw_true ?_ | refine aw_false ?_ | refine s_alloc (fun _ => ?_) | refine s_allocd (fun _ => ?_) | refine s_box (fun _ => ?_) | refine s_box1 (fun _ => ?_) | refine s_store' ?_ | refine s_litq ?_ | refine s_call0 hr ?_))
    refine aw_ret ?_; (repeat (first | refine then_ret ?_ | refine inb_ret ?_))
    refine post_of ⟨?_, rfl⟩ (by (repeat' (first | exact ResVs.nil | apply ResVs.cons | (apply ResV.tmp; first | exact (rfl : _ = AV.sc _) | exact (rfl : _ = AV.ag _) | exact (rfl : _ = AV.sl _ _) | exact (rfl : _ = AV.os _ _ _) | exact (rfl : _ = AV.fn _ _ _)) | (apply ResV.cells; rfl; apply Pick.mem; (repeat (first | exact Pick.here _ | apply Pick.there)); rfl; rfl; rfl; (first | rfl | simp only [ones, List.all_cons, List.all_nil, Bool.and_true, one_int, one_bool, one_str, one_ptr, one_slice, one_sl, one_os, *])) | (apply ResV.cell; rfl; apply Pick.mem; (repeat (first | exact Pick.here _ | apply Pick.there)); rfl; rfl; rfl)))) (by (repeat (first | exact Picks.nil _ | (apply Picks.cons; focus ((repeat (first | exact Pick.here _ | apply Pick.there)); (first | done | fail))))))
    rfl
  | true =>
    rw [hb] at hr
    rw [Bool.and_eq_true] at hb
    have ha := sim_lapart x y hx hy hb.1 hb.2
    rw [ez_cells x, ez_cells y] at ha
    refine sim_body Tryz.func35 rfl rfl rfl ?_
    repeat (any_goals (first | refine s_at ?_ | refine s_skip ?_ | refine s_off ?_ | refine s_offn ?_ | refine s_move ?_ | refine s_assign ?_ | refine s_load ?_ | refine s_loade ?_ | refine s_loadd ?_ | refine s_pick1 ?_ | refine s_pick0 ?_ | refine s_pure ?_ | refine s_nil ?_ | refine aw_seq ?_ | refine aw_seqr ?_ | refine aw_block ?_ | refine aw_true ?_ | refine aw_false ?_ | refine s_alloc (fun _ => ?_) | refine s_allocd (fun _ => ?_) | refine s_box (fun _ => ?_) | refine s_box1 (fun _ => ?_) | refine s_store' ?_ | refine s_litq ?_ | refine s_call0 hr ?_ | refine s_call0 ha ?_))
    refine aw_ret ?_; (repeat (first | refine then_ret ?_ | refine inb_ret ?_))
    refine post_of ⟨?_, rfl⟩ (by (repeat' (first | exact ResVs.nil | apply ResVs.cons | (apply ResV.tmp; first | exact (rfl : _ = AV.sc _) | exact (rfl : _ = AV.ag _) | exact (rfl : _ = AV.sl _ _) | exact (rfl : _ = AV.os _ _ _) | exact (rfl : _ = AV.fn _ _ _)) | (apply ResV.cells; rfl; apply Pick.mem; (repeat (first | exact Pick.here _ | apply Pick.there)); rfl; rfl; rfl; (first | rfl | simp only [ones, List.all_cons, List.all_nil, Bool.and_true, one_int, one_bool, one_str, one_ptr, one_slice, one_sl, one_os, *])) | (apply ResV.cell; rfl; apply Pick.mem; (repeat (first | exact Pick.here _ | apply Pick.there)); rfl; rfl; rfl)))) (by (repeat (first | exact Picks.nil _ | (apply Picks.cons; focus ((repeat (first | exact Pick.here _ | apply Pick.there)); (first | done | fail))))))
    rfl
set_option maxRecDepth 20000 in set_option maxHeartbeats 4000000 in
theorem law_loop (L : List Tz) (hl : L.length ≤ 2000) (hfine : ∀ t, t ∈ L → FineZ t) : AW Tryz.prog GL Tryz.f8.ntmps (sndC (sndC (sndC (sndC (sndC (sndC (sndC (sndC (sndC (sndC (bodyC Tryz.f8))))))))))) (Post Tryz.prog Tryz.f8 (fun o τ => o = .ret (boo true) ∧ τ = [])) [(0, .sl 5 (ezs L))] [] := by
  have hlen := ezs_length L
  show AW _ _ _ (Code.seq _ _) _ _ _
  repeat (any_goals (first | refine s_at ?_ | refine s_skip ?_ | refine s_off ?_ | refine s_offn ?_ | refine s_move ?_ | refine s_assign ?_ | refine s_load ?_ | refine s_loade ?_ | refine s_loadd ?_ | refine s_pick1 ?_ | refine s_pick0 ?_ | refine s_pure ?_ | refine s_nil ?_ | refine aw_seq ?_ | refine aw_seqr ?_ | refine aw_block ?_ | refine aw_true ?_ | refine aw_false ?_ | refine s_alloc (fun _ => ?_) | refine s_allocd (fun _ => ?_) | refine s_box (fun _ => ?_) | refine s_box1 (fun _ => ?_) | refine s_store' ?_))
  refine aw_loop (fun i : Nat => [(0, .sl 5 (ezs L)), (21, i64 (i : Int))]) (fun _ => []) (fun i => i ≤ L.length) (fun i => L.length - i) 0 (Nat.zero_le _) (EnvLe.of_list (by intro x hx; simp only [List.mem_cons, List.not_mem_nil, or_false] at hx; (repeat (rcases hx with rfl | hx; (focus rfl))); (try (subst hx; rfl)))) [] (List.Perm.refl _) ?_
  intro i i1
  try dsimp only at i1
  by_cases hi : i < L.length ∧ i < 100
  · obtain ⟨hi, hi2⟩ := hi
    have hx : L[i]? = some (L[i]'hi) := List.getElem?_eq_getElem hi
    have hmx := List.getElem_mem hi
    generalize L[i]'hi = t at hx hmx
    obtain ⟨j, hj, hje⟩ : ∃ j : Nat, j < L.length ∧ (if (0 : Int) > (i : Int) - 1 then (0 : Int) else (i : Int) - 1) = (j : Int) := by
      by_cases h0 : i = 0
      · exact ⟨0, by omega, by rw [if_pos (by omega)]; rfl⟩
      · exact ⟨i - 1, by omega, by rw [if_neg (by omega)]; omega⟩
    have hy : L[j]? = some (L[j]'hj) := List.getElem?_eq_getElem hj
    have hmy := List.getElem_mem hj
    generalize L[j]'hj = u at hy hmy
    have hg := ezs_get hx
    have hgu := ezs_get hy
    have ha1 := sim_lApart u t (hfine u hmy) (hfine t hmx)
    have ha2 := sim_RApart GL itoa_all u t (hfine u hmy) (hfine t hmx)
    rw [ez_cells] at hg hgu
    rw [ez_cells u, ez_cells t] at ha1 ha2
    generalize (apartR u.tok t.tok).1 = q1 at ha1 ha2
    generalize (apartR u.tok t.tok).2 = q2 at ha1 ha2
    repeat (any_goals (first | refine s_at ?_ | refine s_skip ?_ | refine s_off ?_ | refine s_offn ?_ | refine s_move ?_ | refine s_assign ?_ | refine s_load ?_ | refine s_loade ?_ | refine s_loadd ?_ | refine s_pick1 ?_ | refine s_pick0 ?_ | refine s_pure ?_ | refine s_nil ?_ | refine aw_seq ?_ | refine aw_seqr ?_ | refine aw_block ?_ | refine aw_true ?_ | refine aw_false ?_ | refine s_alloc (fun _ => ?_) | refine s_allocd (fun _ => ?_) | refine s_box (fun _ => ?_) | refine s_box1 (fun _ => ?_) | refine s_store' ?_ | (refine s_cmp (fun h => ?_) (fun h => ?_) <;> try (exfalso; first | omega | exact h rfl)) | refine s_same ?_ | refine s_sub ?_ | refine s_elem i hg ?_ | refine s_elem (hn := hje) j hgu ?_ | refine s_call0 ha1 ?_ | refine s_call0 ha2 ?_ | refine s_draw [] ?_ | refine s_add ?_))
    refine d_end fun env' he => ?_
    (repeat (first | refine inb_nor ?_ | refine then_nor ?_))
    refine ⟨i + 1, _, by omega, by omega, EnvLe.of_eq he (EnvLe.of_list (by intro x hx; simp only [List.mem_cons, List.not_mem_nil, or_false] at hx; (repeat (rcases hx with rfl | hx; (focus rfl))); (try (subst hx; rfl)))), Picks.perm (by (repeat (first | exact Picks.nil _ | (apply Picks.cons; focus ((repeat (first | exact Pick.here _ | apply Pick.there)); (first | done | fail))))))⟩
  · repeat (any_goals (first | refine s_at ?_ | refine s_skip ?_ | refine s_off ?_ | refine s_offn ?_ | refine s_move ?_ | refine s_assign ?_ | refine s_load ?_ | refine s_loade ?_ | refine s_loadd ?_ | refine s_pick1 ?_ | refine s_pick0 ?_ | refine s_pure ?_ | refine s_nil ?_ | refine aw_seq ?_ | refine aw_seqr ?_ | refine aw_block ?_ | refine aw_true ?_ | refine aw_false ?_ | refine s_alloc (fun _ => ?_) | refine s_allocd (fun _ => ?_) | refine s_box (fun _ => ?_) | refine s_box1 (fun _ => ?_) | refine s_store' ?_ | (refine s_cmp (fun h => ?_) (fun h => ?_) <;> try (exfalso; omega))))
    all_goals
      refine aw_exit ?_; (repeat refine then_exit ?_); refine inb_exit ?_; refine then_nor ?_
      repeat (any_goals (first | refine s_at ?_ | refine s_skip ?_ | refine s_off ?_ | refine s_offn ?_ | refine s_move ?_ | refine s_assign ?_ | refine s_load ?_ | refine s_loade ?_ | refine s_loadd ?_ | refine s_pick1 ?_ | refine s_pick0 ?_ | refine s_pure ?_ | refine s_nil ?_ | refine aw_seq ?_ | refine aw_seqr ?_ | refine aw_block ?_ | refine aw_true ?_ | refine aw_false ?_ | refine s_alloc (fun _ => ?_) | refine s_allocd (fun _ => ?_) | refine s_box (fun _ => ?_) | refine s_box1 (fun _ => ?_) | refine s_store' ?_))
      refine aw_ret ?_; (repeat (first | refine then_ret ?_ | refine inb_ret ?_))
      refine post_of ⟨?_, rfl⟩ (by (repeat' (first | exact ResVs.nil | apply ResVs.cons | (apply ResV.tmp; first | exact (rfl : _ = AV.sc _) | exact (rfl : _ = AV.ag _) | exact (rfl : _ = AV.sl _ _) | exact (rfl : _ = AV.os _ _ _) | exact (rfl : _ = AV.fn _ _ _)) | (apply ResV.cells; rfl; apply Pick.mem; (repeat (first | exact Pick.here _ | apply Pick.there)); rfl; rfl; rfl; (first | rfl | simp only [ones, List.all_cons, List.all_nil, Bool.and_true, one_int, one_bool, one_str, one_ptr, one_slice, one_sl, one_os, *])) | (apply ResV.cell; rfl; apply Pick.mem; (repeat (first | exact Pick.here _ | apply Pick.there)); rfl; rfl; rfl)))) (by (repeat (first | exact Picks.nil _ | (apply Picks.cons; focus ((repeat (first | exact Pick.here _ | apply Pick.there)); (first | done | fail))))))
      rfl
set_option maxRecDepth 20000 in set_option maxHeartbeats 4000000 in
theorem law_cmp (L : List Tz) (hl : L.length ≤ 2000) (hfine : ∀ t, t ∈ L → FineZ t) (s1 s2 : ByteArray) (j e x y z : Int) : AW Tryz.prog GL Tryz.f8.ntmps (sndC (sndC (sndC (sndC (sndC (sndC (sndC (sndC (sndC (bodyC Tryz.f8)))))))))) (Post Tryz.prog Tryz.f8 (fun o τ => o = .ret (boo true) ∧ τ = []))
    [(0, .sl 5 (ezs L)), (7, str s1), (8, i64 j), (9, str s1), (10, i64 j), (11, i64 x), (12, i64 y), (13, i64 z), (14, i64 x), (15, i64 y), (16, i64 z), (17, str s2), (18, i64 e), (19, str s2), (20, i64 e)] [] := by
  have hrest := law_loop L hl hfine
  clear hfine
  show AW _ _ _ (Code.seq _ _) _ _ _
  repeat (any_goals (first | exact aw_to hrest (EnvLe.of_list (by intro x hx; simp only [List.mem_cons, List.not_mem_nil, or_false] at hx; (repeat (rcases hx with rfl | hx; (focus rfl))); (try (subst hx; rfl)))) (by (repeat (first | exact Picks.nil _ | (apply Picks.cons; focus ((repeat (first | exact Pick.here _ | apply Pick.there)); (first | done | fail)))))) | refine s_at ?_ | refine s_skip ?_ | refine s_off ?_ | refine s_offn ?_ | refine s_move ?_ | refine s_assign ?_ | refine s_load ?_ | refine s_loade ?_ | refine s_loadd ?_ | refine s_pick1 ?_ | refine s_pick0 ?_ | refine s_pure ?_ | refine s_nil ?_ | refine aw_seq ?_ | refine aw_seqr ?_ | refine aw_block ?_ | refine aw_true ?_ | refine aw_false ?_ | refine s_alloc (fun _ => ?_) | refine s_allocd (fun _ => ?_) | refine s_box (fun _ => ?_) | refine s_box1 (fun _ => ?_) | refine s_store' ?_ | (refine s_cmp (fun h => ?_) (fun h => ?_) <;> try (exfalso; exact h rfl)) | (refine s_cmps (fun h => ?_) (fun h => ?_) <;> try (exact absurd rfl h))))
set_option maxRecDepth 20000 in set_option maxHeartbeats 4000000 in
theorem sim_law (L : List Tz) (a : ByteArray) (at_ : Int) (hL : L.length ≤ 9223372036854775807) (hn : ∀ t ∈ L, -9223372036854775808 ≤ t.n ∧ t.n ≤ 9223372036854775807) (hs : ∀ t ∈ L, t.s.size ≤ 140737488351232) (ha : Small a) :
    Sim Tryz.prog GL 8 [.sl 5 (ezs L), str a, i64 at_] [] (fun o τ => o = .ret (boo true) ∧ τ = []) := by
  have hlen := ezs_length L
  have hmz : (L.map toZ).length = L.length := List.length_map ..
  obtain ⟨b, hF, hfew⟩ := few_of (L.map toZ) (by omega) (fun x hx => by obtain ⟨t, ht, rfl⟩ := List.mem_map.1 hx; exact hs t ht) (L.length + 1) (by omega)
  have hfw := sim_few L _ b hF
  have hsh := sim_short a ha
  refine sim_body Tryz.func8 rfl rfl rfl ?_
  by_cases hgo : b = true ∧ (a.size : Int) ≤ 20000
  · obtain ⟨rfl, hsz⟩ := hgo
    rw [decide_eq_true hsz] at hsh
    obtain ⟨hl, hsum⟩ := hfew rfl
    rw [hmz] at hl
    have hfine : ∀ t, t ∈ L → FineZ t := fun t ht => ⟨(hn t ht).1, (hn t ht).2, by
      have := sumS_mem (List.mem_map_of_mem (f := toZ) ht)
      have e : (toZ t).f2.size = t.s.size := rfl
      omega⟩
    have hsm := sum_le (L.map toZ) (fun x hx => by obtain ⟨t, ht, rfl⟩ := List.mem_map.1 hx; exact fine_of (hfine t ht))
    rw [toks_map, hmz] at hsm
    have hj1 := sim_lJoin L hl hfine (by omega)
    have hj2 : Sim Tryz.prog GL 30 [.sl 5 (ezs L)] [] (fun o τ => o = .ret (.tu [str (joinR L).1, i64 (joinR L).2]) ∧ τ = []) := by
      unfold joinR
      by_cases hall : (L.all fun t => rightB t.tok) = true
      · rw [if_pos hall]
        refine sim_RJoin GL itoa_all L hl hfine hall ?_
        have := (Lex.join_len2 (L.map Tz.tok)).2
        rw [List.length_map] at this
        omega
      · rw [if_neg hall]
        have hrs := sim_Rights GL itoa_all L (by omega) hfine
        rw [show (L.all fun t => rightB t.tok) = false by simpa using hall] at hrs
        refine sim_body Tryz.func30 rfl rfl rfl ?_
        repeat (any_goals (first | refine s_at ?_ | refine s_skip ?_ | refine s_off ?_ | refine s_offn ?_ | refine s_move ?_ | refine s_assign ?_ | refine s_load ?_ | refine s_loade ?_ | refine s_loadd ?_ | refine s_pick1 ?_ | refine s_pick0 ?_ | refine s_pure ?_ | refine s_nil ?_ | refine aw_seq ?_ | refine aw_seqr ?_ | refine aw_block ?_ | refine aw_true ?_ | refine aw_false ?_ | refine s_alloc (fun _ => ?_) | refine s_allocd (fun _ => ?_) | refine s_box (fun _ => ?_) | refine s_box1 (fun _ => ?_) | refine s_store' ?_ | (refine s_cmp (fun h => ?_) (fun h => ?_) <;> try (exfalso; omega)) | refine s_call0 hrs ?_))
        refine aw_ret ?_; (repeat (first | refine then_ret ?_ | refine inb_ret ?_))
        refine post_of ⟨?_, rfl⟩ (by (repeat' (first | exact ResVs.nil | apply ResVs.cons | (apply ResV.tmp; first | exact (rfl : _ = AV.sc _) | exact (rfl : _ = AV.ag _) | exact (rfl : _ = AV.sl _ _) | exact (rfl : _ = AV.os _ _ _) | exact (rfl : _ = AV.fn _ _ _)) | (apply ResV.cells; rfl; apply Pick.mem; (repeat (first | exact Pick.here _ | apply Pick.there)); rfl; rfl; rfl; (first | rfl | simp only [ones, List.all_cons, List.all_nil, Bool.and_true, one_int, one_bool, one_str, one_ptr, one_slice, one_sl, one_os, *])) | (apply ResV.cell; rfl; apply Pick.mem; (repeat (first | exact Pick.here _ | apply Pick.there)); rfl; rfl; rfl)))) (by (repeat (first | exact Picks.nil _ | (apply Picks.cons; focus ((repeat (first | exact Pick.here _ | apply Pick.there)); (first | done | fail))))))
        rfl
    have hp1 := sim_lPlace a ha at_
    have hp2 := sim_RPlace GL a ha at_
    have hpv : ∃ x y z, placeV a at_ = .tu [i64 x, i64 y, i64 z] := by unfold placeV; split <;> exact ⟨_, _, _, rfl⟩
    obtain ⟨px, py, pz, hpv⟩ := hpv
    rw [hpv] at hp1 hp2
    have hs1 := sim_lStrip a ha
    have hs2 := sim_RStrip GL a ha
    unfold stripV at hs1 hs2
    generalize (Lex.stripL a.data.toList).1 = st1 at hs1 hs2
    generalize ((Lex.stripL a.data.toList).2 : Int) = st2 at hs1 hs2
    generalize (joinR L).1 = jn1 at hj1 hj2
    generalize (joinR L).2 = jn2 at hj1 hj2
    have hcmp := law_cmp L hl hfine jn1 (bs st1) jn2 st2 px py pz
    clear hfine hsm hsum hfew
    repeat (any_goals (first | exact aw_to hcmp (EnvLe.of_list (by intro x hx; simp only [List.mem_cons, List.not_mem_nil, or_false] at hx; (repeat (rcases hx with rfl | hx; (focus rfl))); (try (subst hx; rfl)))) (by (repeat (first | exact Picks.nil _ | (apply Picks.cons; focus ((repeat (first | exact Pick.here _ | apply Pick.there)); (first | done | fail)))))) | refine s_at ?_ | refine s_skip ?_ | refine s_off ?_ | refine s_offn ?_ | refine s_move ?_ | refine s_assign ?_ | refine s_load ?_ | refine s_loade ?_ | refine s_loadd ?_ | refine s_pick1 ?_ | refine s_pick0 ?_ | refine s_pure ?_ | refine s_nil ?_ | refine aw_seq ?_ | refine aw_seqr ?_ | refine aw_block ?_ | refine aw_true ?_ | refine aw_false ?_ | refine s_alloc (fun _ => ?_) | refine s_allocd (fun _ => ?_) | refine s_box (fun _ => ?_) | refine s_box1 (fun _ => ?_) | refine s_store' ?_ | refine s_call0 sim_sane ?_ | refine s_call0 hfw ?_ | refine s_call0 hsh ?_ | refine s_litq ?_ | refine s_call0 hj1 ?_ | refine s_call0 hj2 ?_ | refine s_call0 hp1 ?_ | refine s_call0 hp2 ?_ | refine s_call0 hs1 ?_ | refine s_call0 hs2 ?_))
    done
  · cases b with
    | false =>
      repeat (any_goals (first | refine s_at ?_ | refine s_skip ?_ | refine s_off ?_ | refine s_offn ?_ | refine s_move ?_ | refine s_assign ?_ | refine s_load ?_ | refine s_loade ?_ | refine s_loadd ?_ | refine s_pick1 ?_ | refine s_pick0 ?_ | refine s_pure ?_ | refine s_nil ?_ | refine aw_seq ?_ | refine aw_seqr ?_ | refine aw_block ?_ | refine aw_true ?_ | refine aw_false ?_ | refine s_alloc (fun _ => ?_) | refine s_allocd (fun _ => ?_) | refine s_box (fun _ => ?_) | refine s_box1 (fun _ => ?_) | refine s_store' ?_ | refine s_call0 sim_sane ?_ | refine s_call0 hfw ?_))
      refine aw_ret ?_; (repeat (first | refine then_ret ?_ | refine inb_ret ?_))
      refine post_of ⟨?_, rfl⟩ (by (repeat' (first | exact ResVs.nil | apply ResVs.cons | (apply ResV.tmp; first | exact (rfl : _ = AV.sc _) | exact (rfl : _ = AV.ag _) | exact (rfl : _ = AV.sl _ _) | exact (rfl : _ = AV.os _ _ _) | exact (rfl : _ = AV.fn _ _ _)) | (apply ResV.cells; rfl; apply Pick.mem; (repeat (first | exact Pick.here _ | apply Pick.there)); rfl; rfl; rfl; (first | rfl | simp only [ones, List.all_cons, List.all_nil, Bool.and_true, one_int, one_bool, one_str, one_ptr, one_slice, one_sl, one_os, *])) | (apply ResV.cell; rfl; apply Pick.mem; (repeat (first | exact Pick.here _ | apply Pick.there)); rfl; rfl; rfl)))) (by (repeat (first | exact Picks.nil _ | (apply Picks.cons; focus ((repeat (first | exact Pick.here _ | apply Pick.there)); (first | done | fail))))))
      rfl
    | true =>
      rw [decide_eq_false (fun h => hgo ⟨rfl, h⟩)] at hsh
      repeat (any_goals (first | refine s_at ?_ | refine s_skip ?_ | refine s_off ?_ | refine s_offn ?_ | refine s_move ?_ | refine s_assign ?_ | refine s_load ?_ | refine s_loade ?_ | refine s_loadd ?_ | refine s_pick1 ?_ | refine s_pick0 ?_ | refine s_pure ?_ | refine s_nil ?_ | refine aw_seq ?_ | refine aw_seqr ?_ | refine aw_block ?_ | refine aw_true ?_ | refine aw_false ?_ | refine s_alloc (fun _ => ?_) | refine s_allocd (fun _ => ?_) | refine s_box (fun _ => ?_) | refine s_box1 (fun _ => ?_) | refine s_store' ?_ | refine s_call0 sim_sane ?_ | refine s_call0 hfw ?_ | refine s_call0 hsh ?_ | refine s_litq ?_))
      refine aw_ret ?_; (repeat (first | refine then_ret ?_ | refine inb_ret ?_))
      refine post_of ⟨?_, rfl⟩ (by (repeat' (first | exact ResVs.nil | apply ResVs.cons | (apply ResV.tmp; first | exact (rfl : _ = AV.sc _) | exact (rfl : _ = AV.ag _) | exact (rfl : _ = AV.sl _ _) | exact (rfl : _ = AV.os _ _ _) | exact (rfl : _ = AV.fn _ _ _)) | (apply ResV.cells; rfl; apply Pick.mem; (repeat (first | exact Pick.here _ | apply Pick.there)); rfl; rfl; rfl; (first | rfl | simp only [ones, List.all_cons, List.all_nil, Bool.and_true, one_int, one_bool, one_str, one_ptr, one_slice, one_sl, one_os, *])) | (apply ResV.cell; rfl; apply Pick.mem; (repeat (first | exact Pick.here _ | apply Pick.there)); rfl; rfl; rfl)))) (by (repeat (first | exact Picks.nil _ | (apply Picks.cons; focus ((repeat (first | exact Pick.here _ | apply Pick.there)); (first | done | fail))))))
      rfl
end Go.Proofs.YtglgppkjgodlkaaGreatDoor.J
