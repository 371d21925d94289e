/- FnExactPairMatters: the reference's faces of which the choice matters and the program's agree, for all pairs there are. -/
import Derived.Handy
import Derived.Test.YtnoejflancomaaaFnExactPairMattersc2
section
namespace Go.Proofs.Ytnoejflancomaaa.P
open Go.RowKit Go.Proofs.YtnoejflancomaaaW.PrintWords Go.Proofs.YtnoejflancomaaaW.PrintLast Go.Proofs.YtnoejflancomaaaW.PrintMore
attribute [local go_sem] max2_int min2_int max_two min_two max_three min_three max_four min_four
set_option linter.unusedVariables false
set_option linter.unusedSimpArgs false
def impl_fraction_times.f (k : Nat) (a0_0 : Int) (a0_1 : Int) (a1_0 : Int) (a1_1 : Int) : Option (Int × Int) := (impl_fractionOf.f k a0_0 a1_1).bind fun bt305 => ((impl_fractionOf.f k a1_0 a0_1).bind fun bt307 => (some (wrap64 (bt305.1 * bt307.1), wrap64 (bt305.2 * bt307.2))))
theorem impl_fraction_times.mono : ∀ a0 a1 a2 a3 k, LeO (impl_fraction_times.f k a0 a1 a2 a3) (impl_fraction_times.f (k + 1) a0 a1 a2 a3) := by
  intro a0 a1 a2 a3 k
  unfold impl_fraction_times.f
  repeat' first
      | (with_reducible exact impl_fractionOf.mono _ _ _)
      | (with_reducible exact LeO.refl _)
      | (with_reducible exact LeO.none _)
      | (with_reducible refine LeO.ite ?_ ?_)
      | (with_reducible refine LeO.bind ?_ (fun _ => ?_))
      | exact impl_fractionOf.mono _ _ _
      | exact LeO.none _
      | refine LeO.ite ?_ ?_
      | refine LeO.bind ?_ (fun _ => ?_)
def impl_fraction_times.T1 : Bool × List (List Nat × List Nat) := (true, [([], []), ([0], [0]), ([], []), ([2], [2]), ([1, 3], [1, 3]), ([], []), ([5], [5]), ([], []), ([7], [7]), ([6, 8, 4], [6, 8]), ([], []), ([], []), ([10, 4, 9, 0, 1, 2, 3, 4, 10, 11], [4, 10]), ([11, 9, 12, 0, 1, 2, 3, 4, 5, 6, 7, 8, 9, 10, 11, 12], [9, 11])])
def impl_fraction_times.B1 : List Nat := [0, 1, 0, 4, 15, 0, 32, 0, 128, 511, 0, 0, 4095, 8191]
theorem impl_fraction_times.tab1 : rtab .any (opsOf Try.f166 1) = impl_fraction_times.T1 := by kernel_rfl
theorem impl_fraction_times.bits1 : waitsOk impl_fraction_times.T1.2 impl_fraction_times.B1 = true := by kernel_rfl
set_option maxHeartbeats 8000000 in
set_option maxRecDepth 100000 in
theorem impl_fraction_times.calls (k : Nat) (a0_0 : Int) (a0_1 : Int) (a1_0 : Int) (a1_1 : Int) (r1 : Int) (r2 : Int) (w : World) (h : impl_fraction_times.f k a0_0 a0_1 a1_0 a1_1 = some (r1, r2)) :
    Calls Try.prog 166 #[.agg #[.int .i64 a0_0, .int .i64 a0_1], .agg #[.int .i64 a1_0, .int .i64 a1_1]] w fun e w' => e = .returned (.agg #[.int .i64 r1, .int .i64 r2]) ∧ Below w.heap.size w w' := by
  have hu101 := Try.underlying101
  have HB := Aside0.mk (Below.refl w.heap.size w)
  have H : ((impl_fractionOf.f k a0_0 a1_1).bind fun bt305 => ((impl_fractionOf.f k a1_0 a0_1).bind fun bt307 => (some (wrap64 (bt305.1 * bt307.1), wrap64 (bt305.2 * bt307.2))))) = some (r1, r2) := h
  clear h
  replace H := Option.bind_eq_some_iff.mp H
  obtain ⟨⟨t305, t306⟩, A30, H⟩ := H
  replace H : ((impl_fractionOf.f k a1_0 a0_1).bind fun bt307 => (some (wrap64 (t305 * bt307.1), wrap64 (t306 * bt307.2)))) = some (r1, r2) := H
  have A3 := Aside0.mk A30
  clear A30
  replace H := Option.bind_eq_some_iff.mp H
  obtain ⟨⟨t307, t308⟩, A40, H⟩ := H
  replace H : (some (wrap64 (t305 * t307), wrap64 (t306 * t308))) = some (r1, r2) := H
  have A4 := Aside0.mk A40
  clear A40
  simp only [Option.some.injEq, Prod.mk.injEq] at H
  obtain ⟨rfl, rfl⟩ := H
  go_enter Try.func166, Try.ntmps166
  try go_wp2_with (first | ((with_reducible refine gate_dst (N := 2) rfl ?_); refine box_event ?hg (N := 2) ?hd (cs := #[.int .i64 a0_0, .int .i64 a0_1]) (t := 101) ?hr ?_; (case hd => rfl); (case hg => rfl); (case hr => first | (go_simp; done) | (go_simp; rfl)); intro gb302 hg w5 hbox hb; have n0_ := Aside0.mk (below_step (by repeat (first | (with_reducible first | exact HB.out | apply below_alloc | apply pw_below_drewN | apply below_drew1) | exact HB.out)) hb); have n1_ := Aside0.mk (hbox); have n2_ := Aside0.mk ((by rw [hg]; exact (below_size (by repeat (first | (with_reducible first | exact HB.out | apply below_alloc | apply pw_below_drewN | apply below_drew1) | exact HB.out))) : w.heap.size ≤ gb302)); have n3_ := Aside0.mk ((by rw [hg]; exact (below_size (by repeat (first | (with_reducible first | exact HB.out | apply below_alloc | apply pw_below_drewN | apply below_drew1) | exact HB.out))) : w.heap.size ≤ gb302)); clear HB; have HB := n0_; have BK302 := n1_; have GW302 := n2_; have GE302 := n3_; clear n0_ n1_ n2_ n3_; clear hb hbox hg) | ((with_reducible refine gate_dst (N := 3) rfl ?_); refine box_event ?hg (N := 3) ?hd (cs := #[.int .i64 a1_0, .int .i64 a1_1]) (t := 101) ?hr ?_; (case hd => rfl); (case hg => rfl); (case hr => first | (go_simp; done) | (go_simp; rfl)); intro gb303 hg w6 hbox hb; have n0_ := Aside0.mk (blk_below (g := gb302) (o := .cells #[.int .i64 a0_0, .int .i64 a0_1] 101 (0, 0)) (by (with_reducible repeat (first | refine blk_drewN ?_ _ | refine blk_drew ?_ | refine blk_alloc ?_ _)); exact BK302.out) hb); have n1_ := Aside0.mk (below_step (by repeat (first | (with_reducible first | exact HB.out | apply below_alloc | apply pw_below_drewN | apply below_drew1 | refine below_set ?_ GE302.out) | exact HB.out)) hb); have n2_ := Aside0.mk (hbox); have n3_ := Aside0.mk ((by rw [hg]; exact (below_size (by repeat (first | (with_reducible first | exact HB.out | apply below_alloc | apply pw_below_drewN | apply below_drew1 | refine below_set ?_ GE302.out) | exact HB.out))) : w.heap.size ≤ gb303)); have n4_ := Aside0.mk ((by rw [hg]; exact (below_size (by repeat (first | (with_reducible first | exact HB.out | apply below_alloc | apply pw_below_drewN | apply below_drew1 | refine below_set ?_ GE302.out) | exact HB.out))) : w.heap.size ≤ gb303)); have n5_ := Aside0.mk ((by rw [hg]; exact Nat.ne_of_lt (blk_lt (g := gb302) (o := .cells #[.int .i64 a0_0, .int .i64 a0_1] 101 (0, 0)) (by (with_reducible repeat (first | refine blk_drewN ?_ _ | refine blk_drew ?_ | refine blk_alloc ?_ _)); exact BK302.out)) : gb302 ≠ gb303)); have n6_ := Aside0.mk ((by rw [hg]; exact Nat.ne_of_gt (blk_lt (g := gb302) (o := .cells #[.int .i64 a0_0, .int .i64 a0_1] 101 (0, 0)) (by (with_reducible repeat (first | refine blk_drewN ?_ _ | refine blk_drew ?_ | refine blk_alloc ?_ _)); exact BK302.out)) : gb303 ≠ gb302)); clear BK302; clear HB; have BK302 := n0_; have HB := n1_; have BK303 := n2_; have GW303 := n3_; have GE303 := n4_; have NB302_303 := n5_; have NB303_302 := n6_; clear n0_ n1_ n2_ n3_ n4_ n5_ n6_; clear hb hbox hg) | ((with_reducible refine gate_dst (N := 4) rfl ?_); refine box_event ?hg (N := 4) ?hd (cs := #[.int .i64 0, .int .i64 0]) (t := 101) ?hr ?_; (case hd => rfl); (case hg => rfl); (case hr => first | (go_simp; done) | (go_simp; rfl)); intro gb304 hg w7 hbox hb; have n0_ := Aside0.mk (blk_below (g := gb302) (o := .cells #[.int .i64 a0_0, .int .i64 a0_1] 101 (0, 0)) (by (with_reducible repeat (first | refine blk_drewN ?_ _ | refine blk_drew ?_ | refine blk_alloc ?_ _)); exact BK302.out) hb); have n1_ := Aside0.mk (blk_below (g := gb303) (o := .cells #[.int .i64 a1_0, .int .i64 a1_1] 101 (0, 0)) (by (with_reducible repeat (first | refine blk_drewN ?_ _ | refine blk_drew ?_ | refine blk_alloc ?_ _)); exact BK303.out) hb); have n2_ := Aside0.mk (below_step (by repeat (first | (with_reducible first | exact HB.out | apply below_alloc | apply pw_below_drewN | apply below_drew1 | refine below_set ?_ GE302.out | refine below_set ?_ GE303.out) | exact HB.out)) hb); have n3_ := Aside0.mk (hbox); have n4_ := Aside0.mk ((by rw [hg]; exact (below_size (by repeat (first | (with_reducible first | exact HB.out | apply below_alloc | apply pw_below_drewN | apply below_drew1 | refine below_set ?_ GE302.out | refine below_set ?_ GE303.out) | exact HB.out))) : w.heap.size ≤ gb304)); have n5_ := Aside0.mk ((by rw [hg]; exact (below_size (by repeat (first | (with_reducible first | exact HB.out | apply below_alloc | apply pw_below_drewN | apply below_drew1 | refine below_set ?_ GE302.out | refine below_set ?_ GE303.out) | exact HB.out))) : w.heap.size ≤ gb304)); have n6_ := Aside0.mk ((by rw [hg]; exact Nat.ne_of_lt (blk_lt (g := gb302) (o := .cells #[.int .i64 a0_0, .int .i64 a0_1] 101 (0, 0)) (by (with_reducible repeat (first | refine blk_drewN ?_ _ | refine blk_drew ?_ | refine blk_alloc ?_ _)); exact BK302.out)) : gb302 ≠ gb304)); have n7_ := Aside0.mk ((by rw [hg]; exact Nat.ne_of_gt (blk_lt (g := gb302) (o := .cells #[.int .i64 a0_0, .int .i64 a0_1] 101 (0, 0)) (by (with_reducible repeat (first | refine blk_drewN ?_ _ | refine blk_drew ?_ | refine blk_alloc ?_ _)); exact BK302.out)) : gb304 ≠ gb302)); have n8_ := Aside0.mk ((by rw [hg]; exact Nat.ne_of_lt (blk_lt (g := gb303) (o := .cells #[.int .i64 a1_0, .int .i64 a1_1] 101 (0, 0)) (by (with_reducible repeat (first | refine blk_drewN ?_ _ | refine blk_drew ?_ | refine blk_alloc ?_ _)); exact BK303.out)) : gb303 ≠ gb304)); have n9_ := Aside0.mk ((by rw [hg]; exact Nat.ne_of_gt (blk_lt (g := gb303) (o := .cells #[.int .i64 a1_0, .int .i64 a1_1] 101 (0, 0)) (by (with_reducible repeat (first | refine blk_drewN ?_ _ | refine blk_drew ?_ | refine blk_alloc ?_ _)); exact BK303.out)) : gb304 ≠ gb303)); clear BK302; clear BK303; clear HB; have BK302 := n0_; have BK303 := n1_; have HB := n2_; have BK304 := n3_; have GW304 := n4_; have GE304 := n5_; have NB302_304 := n6_; have NB304_302 := n7_; have NB303_304 := n8_; have NB304_303 := n9_; clear n0_ n1_ n2_ n3_ n4_ n5_ n6_ n7_ n8_ n9_; clear hb hbox hg))
  have n0_ := Aside0.mk (blk_drew BK302.out)
  have n1_ := Aside0.mk (blk_drew BK303.out)
  have n2_ := Aside0.mk (blk_drew BK304.out)
  have n3_ := Aside0.mk (below_drew1 HB.out)
  clear BK302
  clear BK303
  clear BK304
  clear HB
  have BK302 := n0_
  have BK303 := n1_
  have BK304 := n2_
  have HB := n3_
  clear n0_ n1_ n2_ n3_
  refine start_ (n := 14) (S := fun w' => w'.cell? ⟨gb302, 0, none⟩ = some (.int .i64 a0_0) ∧ w'.cell? ⟨gb302, 1, none⟩ = some (.int .i64 a0_1) ∧ w'.cell? ⟨gb303, 0, none⟩ = some (.int .i64 a1_0) ∧ w'.cell? ⟨gb303, 1, none⟩ = some (.int .i64 a1_1)) (ds := []) #[false, false, false, false, false, false, false, false, false, false, false, false, false, false] (by kernel_rfl) rfl rfl ⟨(blk_cell BK302.out 0).trans rfl, (blk_cell BK302.out 1).trans rfl, (blk_cell BK303.out 0).trans rfl, (blk_cell BK303.out 1).trans rfl⟩ (fun hHeld => ?_); refine with_tabW impl_fraction_times.tab1 impl_fraction_times.bits1 (fun HT_ HW_ => ?_)
  generalize w7.drew = w8 at BK302 BK303 BK304 HB hHeld ⊢
  refine pure_ (i := 0) (N := some 7) (v := ?_) (a' := ?_) #[true, false, false, false, false, false, false, false, false, false, false, false, false, false] rfl rfl (any_of HT_.out (by kernel_rfl)) (fun _ _ _ h => h) (Or.inl ⟨by rfl, ?_⟩) ?_ ?_
  rotate_left
  · intro w'
    go_simp
    with_reducible rfl
  rotate_left
  · simp only [Act.put, List.setIfInBounds_toArray, List.set_cons_zero, List.set_cons_succ, i64_w, i32_w]
    rfl
  refine pure_ (i := 2) (N := some 9) (v := ?_) (a' := ?_) #[true, false, true, false, false, false, false, false, false, false, false, false, false, false] rfl rfl (any_of HT_.out (by kernel_rfl)) (fun _ _ _ h => h) (Or.inl ⟨by rfl, ?_⟩) ?_ ?_
  rotate_left
  · intro w'
    go_simp
    with_reducible rfl
  rotate_left
  · simp only [Act.put, List.setIfInBounds_toArray, List.set_cons_zero, List.set_cons_succ, i64_w, i32_w]
    rfl
  refine pure_ (i := 5) (N := some 12) (v := ?_) (a' := ?_) #[true, false, true, false, false, true, false, false, false, false, false, false, false, false] rfl rfl (any_of HT_.out (by kernel_rfl)) (fun _ _ _ h => h) (Or.inl ⟨by rfl, ?_⟩) ?_ ?_
  rotate_left
  · intro w'
    go_simp
    with_reducible rfl
  rotate_left
  · simp only [Act.put, List.setIfInBounds_toArray, List.set_cons_zero, List.set_cons_succ, i64_w, i32_w]
    rfl
  refine pure_ (i := 7) (N := some 14) (v := ?_) (a' := ?_) #[true, false, true, false, false, true, false, true, false, false, false, false, false, false] rfl rfl (any_of HT_.out (by kernel_rfl)) (fun _ _ _ h => h) (Or.inl ⟨by rfl, ?_⟩) ?_ ?_
  rotate_left
  · intro w'
    go_simp
    with_reducible rfl
  rotate_left
  · simp only [Act.put, List.setIfInBounds_toArray, List.set_cons_zero, List.set_cons_succ, i64_w, i32_w]
    rfl
  refine take_ (i := 1) (N := some 8) (v := ?_) (a' := ?_) #[true, true, true, false, false, true, false, true, false, false, false, false, false, false] rfl rfl (take_ofW HT_.out HW_.out (by kernel_rfl)) (fun _ _ _ h => h) (Or.inl ⟨by rfl, ?_⟩) hHeld ?_ ?_
  rotate_left
  · rintro w' ⟨s0, s1, s2, s3⟩
    go_simp
    with_reducible rfl
  rotate_left
  · simp only [Act.put, List.setIfInBounds_toArray, List.set_cons_zero, List.set_cons_succ, i64_w, i32_w]
    rfl
  refine take_ (i := 3) (N := some 10) (v := ?_) (a' := ?_) #[true, true, true, true, false, true, false, true, false, false, false, false, false, false] rfl rfl (take_ofW HT_.out HW_.out (by kernel_rfl)) (fun _ _ _ h => h) (Or.inl ⟨by rfl, ?_⟩) hHeld ?_ ?_
  rotate_left
  · rintro w' ⟨s0, s1, s2, s3⟩
    go_simp
    with_reducible rfl
  rotate_left
  · simp only [Act.put, List.setIfInBounds_toArray, List.set_cons_zero, List.set_cons_succ, i64_w, i32_w]
    rfl
  refine take_ (i := 6) (N := some 13) (v := ?_) (a' := ?_) #[true, true, true, true, false, true, true, true, false, false, false, false, false, false] rfl rfl (take_ofW HT_.out HW_.out (by kernel_rfl)) (fun _ _ _ h => h) (Or.inl ⟨by rfl, ?_⟩) hHeld ?_ ?_
  rotate_left
  · rintro w' ⟨s0, s1, s2, s3⟩
    go_simp
    with_reducible rfl
  rotate_left
  · simp only [Act.put, List.setIfInBounds_toArray, List.set_cons_zero, List.set_cons_succ, i64_w, i32_w]
    rfl
  refine take_ (i := 8) (N := some 15) (v := ?_) (a' := ?_) #[true, true, true, true, false, true, true, true, true, false, false, false, false, false] rfl rfl (take_ofW HT_.out HW_.out (by kernel_rfl)) (fun _ _ _ h => h) (Or.inl ⟨by rfl, ?_⟩) hHeld ?_ ?_
  rotate_left
  · rintro w' ⟨s0, s1, s2, s3⟩
    go_simp
    with_reducible rfl
  rotate_left
  · simp only [Act.put, List.setIfInBounds_toArray, List.set_cons_zero, List.set_cons_succ, i64_w, i32_w]
    rfl
  refine join_ (σ := Nat × Nat) 2 #[true, true, true, true, true, true, true, true, true, true, true, true, false, false] (fun s_ => [(11, .agg #[.int .i64 t305, .int .i64 t306]), (16, .agg #[.int .i64 t307, .int .i64 t308]), (5, .pointer (some ⟨s_.1, 0, none⟩)), (6, .pointer (some ⟨s_.2, 0, none⟩))]) (fun s_ w' => (w'.cell? ⟨gb302, 0, none⟩ = some (.int .i64 a0_0) ∧ w'.cell? ⟨gb302, 1, none⟩ = some (.int .i64 a0_1) ∧ w'.cell? ⟨gb303, 0, none⟩ = some (.int .i64 a1_0) ∧ w'.cell? ⟨gb303, 1, none⟩ = some (.int .i64 a1_1)) ∧ (w'.heap[gb302]? = some (.cells #[.int .i64 a0_0, .int .i64 a0_1] 101 (0, 0))) ∧ (w'.heap[gb303]? = some (.cells #[.int .i64 a1_0, .int .i64 a1_1] 101 (0, 0))) ∧ (w'.heap[gb304]? = some (.cells #[.int .i64 0, .int .i64 0] 101 (0, 0))) ∧ (w'.heap[s_.1]? = some (.cells #[.int .i64 0, .int .i64 0] 101 (0, 0))) ∧ (w'.heap[s_.2]? = some (.cells #[.int .i64 0, .int .i64 0] 101 (0, 0))) ∧ (w.heap.size ≤ s_.1) ∧ (w.heap.size ≤ s_.1) ∧ (gb302 ≠ s_.1) ∧ (s_.1 ≠ gb302) ∧ (gb303 ≠ s_.1) ∧ (s_.1 ≠ gb303) ∧ (gb304 ≠ s_.1) ∧ (s_.1 ≠ gb304) ∧ (s_.2 ≠ s_.1) ∧ (s_.1 ≠ s_.2) ∧ (w.heap.size ≤ s_.2) ∧ (w.heap.size ≤ s_.2) ∧ (gb302 ≠ s_.2) ∧ (s_.2 ≠ gb302) ∧ (gb303 ≠ s_.2) ∧ (s_.2 ≠ gb303) ∧ (gb304 ≠ s_.2) ∧ (s_.2 ≠ gb304) ∧ (Below w.heap.size w w')) ?_ ?_
  rotate_left
  · intro hJ4_9_10_11
    refine join_ (σ := Nat) 3 #[true, true, true, true, true, true, true, true, true, true, true, false, false, false] (fun s_ => [(11, .agg #[.int .i64 t305, .int .i64 t306]), (16, .agg #[.int .i64 t307, .int .i64 t308]), (5, .pointer (some ⟨s_, 0, none⟩))]) (fun s_ w' => (w'.cell? ⟨gb302, 0, none⟩ = some (.int .i64 a0_0) ∧ w'.cell? ⟨gb302, 1, none⟩ = some (.int .i64 a0_1) ∧ w'.cell? ⟨gb303, 0, none⟩ = some (.int .i64 a1_0) ∧ w'.cell? ⟨gb303, 1, none⟩ = some (.int .i64 a1_1)) ∧ (w'.heap[gb302]? = some (.cells #[.int .i64 a0_0, .int .i64 a0_1] 101 (0, 0))) ∧ (w'.heap[gb303]? = some (.cells #[.int .i64 a1_0, .int .i64 a1_1] 101 (0, 0))) ∧ (w'.heap[gb304]? = some (.cells #[.int .i64 0, .int .i64 0] 101 (0, 0))) ∧ (w'.heap[s_]? = some (.cells #[.int .i64 0, .int .i64 0] 101 (0, 0))) ∧ (w.heap.size ≤ s_) ∧ (w.heap.size ≤ s_) ∧ (gb302 ≠ s_) ∧ (s_ ≠ gb302) ∧ (gb303 ≠ s_) ∧ (s_ ≠ gb303) ∧ (gb304 ≠ s_) ∧ (s_ ≠ gb304) ∧ (Below w.heap.size w w')) ?_ ?_
    rotate_left
    · intro hJ4_9_10
      refine join_ (σ := Nat) 3 #[true, true, true, true, true, true, true, true, true, true, false, true, false, false] (fun s_ => [(11, .agg #[.int .i64 t305, .int .i64 t306]), (16, .agg #[.int .i64 t307, .int .i64 t308]), (6, .pointer (some ⟨s_, 0, none⟩))]) (fun s_ w' => (w'.cell? ⟨gb302, 0, none⟩ = some (.int .i64 a0_0) ∧ w'.cell? ⟨gb302, 1, none⟩ = some (.int .i64 a0_1) ∧ w'.cell? ⟨gb303, 0, none⟩ = some (.int .i64 a1_0) ∧ w'.cell? ⟨gb303, 1, none⟩ = some (.int .i64 a1_1)) ∧ (w'.heap[gb302]? = some (.cells #[.int .i64 a0_0, .int .i64 a0_1] 101 (0, 0))) ∧ (w'.heap[gb303]? = some (.cells #[.int .i64 a1_0, .int .i64 a1_1] 101 (0, 0))) ∧ (w'.heap[gb304]? = some (.cells #[.int .i64 0, .int .i64 0] 101 (0, 0))) ∧ (w'.heap[s_]? = some (.cells #[.int .i64 0, .int .i64 0] 101 (0, 0))) ∧ (w.heap.size ≤ s_) ∧ (w.heap.size ≤ s_) ∧ (gb302 ≠ s_) ∧ (s_ ≠ gb302) ∧ (gb303 ≠ s_) ∧ (s_ ≠ gb303) ∧ (gb304 ≠ s_) ∧ (s_ ≠ gb304) ∧ (Below w.heap.size w w')) ?_ ?_
      rotate_left
      · intro hJ4_9_11
        refine join_ (σ := Nat × Nat) 3 #[true, true, true, true, true, true, true, true, true, false, true, true, false, false] (fun s_ => [(11, .agg #[.int .i64 t305, .int .i64 t306]), (5, .pointer (some ⟨s_.1, 0, none⟩)), (6, .pointer (some ⟨s_.2, 0, none⟩))]) (fun s_ w' => (w'.cell? ⟨gb302, 0, none⟩ = some (.int .i64 a0_0) ∧ w'.cell? ⟨gb302, 1, none⟩ = some (.int .i64 a0_1) ∧ w'.cell? ⟨gb303, 0, none⟩ = some (.int .i64 a1_0) ∧ w'.cell? ⟨gb303, 1, none⟩ = some (.int .i64 a1_1)) ∧ (w'.heap[gb302]? = some (.cells #[.int .i64 a0_0, .int .i64 a0_1] 101 (0, 0))) ∧ (w'.heap[gb303]? = some (.cells #[.int .i64 a1_0, .int .i64 a1_1] 101 (0, 0))) ∧ (w'.heap[gb304]? = some (.cells #[.int .i64 0, .int .i64 0] 101 (0, 0))) ∧ (w'.heap[s_.1]? = some (.cells #[.int .i64 0, .int .i64 0] 101 (0, 0))) ∧ (w'.heap[s_.2]? = some (.cells #[.int .i64 0, .int .i64 0] 101 (0, 0))) ∧ (w.heap.size ≤ s_.1) ∧ (w.heap.size ≤ s_.1) ∧ (gb302 ≠ s_.1) ∧ (s_.1 ≠ gb302) ∧ (gb303 ≠ s_.1) ∧ (s_.1 ≠ gb303) ∧ (gb304 ≠ s_.1) ∧ (s_.1 ≠ gb304) ∧ (s_.2 ≠ s_.1) ∧ (s_.1 ≠ s_.2) ∧ (w.heap.size ≤ s_.2) ∧ (w.heap.size ≤ s_.2) ∧ (gb302 ≠ s_.2) ∧ (s_.2 ≠ gb302) ∧ (gb303 ≠ s_.2) ∧ (s_.2 ≠ gb303) ∧ (gb304 ≠ s_.2) ∧ (s_.2 ≠ gb304) ∧ (Below w.heap.size w w')) ?_ ?_
        rotate_left
        · intro hJ4_10_11
          refine join_ (σ := Unit) 4 #[true, true, true, true, true, true, true, true, true, true, false, false, false, false] (fun s_ => [(11, .agg #[.int .i64 t305, .int .i64 t306]), (16, .agg #[.int .i64 t307, .int .i64 t308])]) (fun s_ w' => (w'.cell? ⟨gb302, 0, none⟩ = some (.int .i64 a0_0) ∧ w'.cell? ⟨gb302, 1, none⟩ = some (.int .i64 a0_1) ∧ w'.cell? ⟨gb303, 0, none⟩ = some (.int .i64 a1_0) ∧ w'.cell? ⟨gb303, 1, none⟩ = some (.int .i64 a1_1)) ∧ (w'.heap[gb302]? = some (.cells #[.int .i64 a0_0, .int .i64 a0_1] 101 (0, 0))) ∧ (w'.heap[gb303]? = some (.cells #[.int .i64 a1_0, .int .i64 a1_1] 101 (0, 0))) ∧ (w'.heap[gb304]? = some (.cells #[.int .i64 0, .int .i64 0] 101 (0, 0))) ∧ (Below w.heap.size w w')) ?_ ?_
          rotate_left
          · intro hJ4_9
            refine join_ (σ := Nat) 4 #[true, true, true, true, true, true, true, true, true, false, true, false, false, false] (fun s_ => [(11, .agg #[.int .i64 t305, .int .i64 t306]), (5, .pointer (some ⟨s_, 0, none⟩))]) (fun s_ w' => (w'.cell? ⟨gb302, 0, none⟩ = some (.int .i64 a0_0) ∧ w'.cell? ⟨gb302, 1, none⟩ = some (.int .i64 a0_1) ∧ w'.cell? ⟨gb303, 0, none⟩ = some (.int .i64 a1_0) ∧ w'.cell? ⟨gb303, 1, none⟩ = some (.int .i64 a1_1)) ∧ (w'.heap[gb302]? = some (.cells #[.int .i64 a0_0, .int .i64 a0_1] 101 (0, 0))) ∧ (w'.heap[gb303]? = some (.cells #[.int .i64 a1_0, .int .i64 a1_1] 101 (0, 0))) ∧ (w'.heap[gb304]? = some (.cells #[.int .i64 0, .int .i64 0] 101 (0, 0))) ∧ (w'.heap[s_]? = some (.cells #[.int .i64 0, .int .i64 0] 101 (0, 0))) ∧ (w.heap.size ≤ s_) ∧ (w.heap.size ≤ s_) ∧ (gb302 ≠ s_) ∧ (s_ ≠ gb302) ∧ (gb303 ≠ s_) ∧ (s_ ≠ gb303) ∧ (gb304 ≠ s_) ∧ (s_ ≠ gb304) ∧ (Below w.heap.size w w')) ?_ ?_
            rotate_left
            · intro hJ4_10
              refine join_ (σ := Nat) 4 #[true, true, true, true, true, true, true, true, true, false, false, true, false, false] (fun s_ => [(11, .agg #[.int .i64 t305, .int .i64 t306]), (6, .pointer (some ⟨s_, 0, none⟩))]) (fun s_ w' => (w'.cell? ⟨gb302, 0, none⟩ = some (.int .i64 a0_0) ∧ w'.cell? ⟨gb302, 1, none⟩ = some (.int .i64 a0_1) ∧ w'.cell? ⟨gb303, 0, none⟩ = some (.int .i64 a1_0) ∧ w'.cell? ⟨gb303, 1, none⟩ = some (.int .i64 a1_1)) ∧ (w'.heap[gb302]? = some (.cells #[.int .i64 a0_0, .int .i64 a0_1] 101 (0, 0))) ∧ (w'.heap[gb303]? = some (.cells #[.int .i64 a1_0, .int .i64 a1_1] 101 (0, 0))) ∧ (w'.heap[gb304]? = some (.cells #[.int .i64 0, .int .i64 0] 101 (0, 0))) ∧ (w'.heap[s_]? = some (.cells #[.int .i64 0, .int .i64 0] 101 (0, 0))) ∧ (w.heap.size ≤ s_) ∧ (w.heap.size ≤ s_) ∧ (gb302 ≠ s_) ∧ (s_ ≠ gb302) ∧ (gb303 ≠ s_) ∧ (s_ ≠ gb303) ∧ (gb304 ≠ s_) ∧ (s_ ≠ gb304) ∧ (Below w.heap.size w w')) ?_ ?_
              rotate_left
              · intro hJ4_11
                refine join_ (σ := Nat × Nat) 4 #[true, true, true, true, false, true, true, true, true, false, true, true, false, false] (fun s_ => [(5, .pointer (some ⟨s_.1, 0, none⟩)), (6, .pointer (some ⟨s_.2, 0, none⟩))]) (fun s_ w' => (w'.cell? ⟨gb302, 0, none⟩ = some (.int .i64 a0_0) ∧ w'.cell? ⟨gb302, 1, none⟩ = some (.int .i64 a0_1) ∧ w'.cell? ⟨gb303, 0, none⟩ = some (.int .i64 a1_0) ∧ w'.cell? ⟨gb303, 1, none⟩ = some (.int .i64 a1_1)) ∧ (w'.heap[gb302]? = some (.cells #[.int .i64 a0_0, .int .i64 a0_1] 101 (0, 0))) ∧ (w'.heap[gb303]? = some (.cells #[.int .i64 a1_0, .int .i64 a1_1] 101 (0, 0))) ∧ (w'.heap[gb304]? = some (.cells #[.int .i64 0, .int .i64 0] 101 (0, 0))) ∧ (w'.heap[s_.1]? = some (.cells #[.int .i64 0, .int .i64 0] 101 (0, 0))) ∧ (w'.heap[s_.2]? = some (.cells #[.int .i64 0, .int .i64 0] 101 (0, 0))) ∧ (w.heap.size ≤ s_.1) ∧ (w.heap.size ≤ s_.1) ∧ (gb302 ≠ s_.1) ∧ (s_.1 ≠ gb302) ∧ (gb303 ≠ s_.1) ∧ (s_.1 ≠ gb303) ∧ (gb304 ≠ s_.1) ∧ (s_.1 ≠ gb304) ∧ (s_.2 ≠ s_.1) ∧ (s_.1 ≠ s_.2) ∧ (w.heap.size ≤ s_.2) ∧ (w.heap.size ≤ s_.2) ∧ (gb302 ≠ s_.2) ∧ (s_.2 ≠ gb302) ∧ (gb303 ≠ s_.2) ∧ (s_.2 ≠ gb303) ∧ (gb304 ≠ s_.2) ∧ (s_.2 ≠ gb304) ∧ (Below w.heap.size w w')) ?_ ?_
                rotate_left
                · intro hJ10_11
                  refine join_ (σ := Unit) 5 #[true, true, true, true, true, true, true, true, true, false, false, false, false, false] (fun s_ => [(11, .agg #[.int .i64 t305, .int .i64 t306])]) (fun s_ w' => (w'.cell? ⟨gb302, 0, none⟩ = some (.int .i64 a0_0) ∧ w'.cell? ⟨gb302, 1, none⟩ = some (.int .i64 a0_1) ∧ w'.cell? ⟨gb303, 0, none⟩ = some (.int .i64 a1_0) ∧ w'.cell? ⟨gb303, 1, none⟩ = some (.int .i64 a1_1)) ∧ (w'.heap[gb302]? = some (.cells #[.int .i64 a0_0, .int .i64 a0_1] 101 (0, 0))) ∧ (w'.heap[gb303]? = some (.cells #[.int .i64 a1_0, .int .i64 a1_1] 101 (0, 0))) ∧ (w'.heap[gb304]? = some (.cells #[.int .i64 0, .int .i64 0] 101 (0, 0))) ∧ (Below w.heap.size w w')) ?_ ?_
                  rotate_left
                  · intro hJ4
                    refine join_ (σ := Nat) 5 #[true, true, true, true, false, true, true, true, true, false, true, false, false, false] (fun s_ => [(5, .pointer (some ⟨s_, 0, none⟩))]) (fun s_ w' => (w'.cell? ⟨gb302, 0, none⟩ = some (.int .i64 a0_0) ∧ w'.cell? ⟨gb302, 1, none⟩ = some (.int .i64 a0_1) ∧ w'.cell? ⟨gb303, 0, none⟩ = some (.int .i64 a1_0) ∧ w'.cell? ⟨gb303, 1, none⟩ = some (.int .i64 a1_1)) ∧ (w'.heap[gb302]? = some (.cells #[.int .i64 a0_0, .int .i64 a0_1] 101 (0, 0))) ∧ (w'.heap[gb303]? = some (.cells #[.int .i64 a1_0, .int .i64 a1_1] 101 (0, 0))) ∧ (w'.heap[gb304]? = some (.cells #[.int .i64 0, .int .i64 0] 101 (0, 0))) ∧ (w'.heap[s_]? = some (.cells #[.int .i64 0, .int .i64 0] 101 (0, 0))) ∧ (w.heap.size ≤ s_) ∧ (w.heap.size ≤ s_) ∧ (gb302 ≠ s_) ∧ (s_ ≠ gb302) ∧ (gb303 ≠ s_) ∧ (s_ ≠ gb303) ∧ (gb304 ≠ s_) ∧ (s_ ≠ gb304) ∧ (Below w.heap.size w w')) ?_ ?_
                    rotate_left
                    · intro hJ10
                      refine join_ (σ := Nat) 5 #[true, true, true, true, false, true, true, true, true, false, false, true, false, false] (fun s_ => [(6, .pointer (some ⟨s_, 0, none⟩))]) (fun s_ w' => (w'.cell? ⟨gb302, 0, none⟩ = some (.int .i64 a0_0) ∧ w'.cell? ⟨gb302, 1, none⟩ = some (.int .i64 a0_1) ∧ w'.cell? ⟨gb303, 0, none⟩ = some (.int .i64 a1_0) ∧ w'.cell? ⟨gb303, 1, none⟩ = some (.int .i64 a1_1)) ∧ (w'.heap[gb302]? = some (.cells #[.int .i64 a0_0, .int .i64 a0_1] 101 (0, 0))) ∧ (w'.heap[gb303]? = some (.cells #[.int .i64 a1_0, .int .i64 a1_1] 101 (0, 0))) ∧ (w'.heap[gb304]? = some (.cells #[.int .i64 0, .int .i64 0] 101 (0, 0))) ∧ (w'.heap[s_]? = some (.cells #[.int .i64 0, .int .i64 0] 101 (0, 0))) ∧ (w.heap.size ≤ s_) ∧ (w.heap.size ≤ s_) ∧ (gb302 ≠ s_) ∧ (s_ ≠ gb302) ∧ (gb303 ≠ s_) ∧ (s_ ≠ gb303) ∧ (gb304 ≠ s_) ∧ (s_ ≠ gb304) ∧ (Below w.heap.size w w')) ?_ ?_
                      rotate_left
                      · intro hJ11
                        refine three_ (i := 4) (j := 10) (k := 11) (Ni := some 11) (Nj := some 5) (Nk := some 6) #[true, true, true, true, true, true, true, true, true, false, false, false, false, false] #[true, true, true, true, false, true, true, true, true, false, true, false, false, false] #[true, true, true, true, false, true, true, true, true, false, false, true, false, false] rfl rfl rfl rfl rfl rfl (three_of HT_.out (by kernel_rfl)) (by decide) (by decide) (by decide) (fun K hK => ?_) (fun K hK => ?_) (fun K hK => ?_)
                        · skip
                          refine goes_ Try.func119 (by kernel_rfl) rfl #[.int .i64 a0_0, .int .i64 a1_1] (by rfl) rfl rfl (by (try simp only [List.map_toArray, List.map_cons, List.map_nil]); first | done | rfl | (simp only [List.length_drop, List.length_take]; rfl)) ?_
                          with_reducible refine (impl_fractionOf.calls k a0_0 a1_1 t305 t306 _ A3.out).mono ?_
                          rintro e w9 ⟨rfl, hb⟩
                          refine ⟨_, rfl, ?_⟩
                          have n0_ := Aside0.mk (blk_below (g := gb302) (o := .cells #[.int .i64 a0_0, .int .i64 a0_1] 101 (0, 0)) (by (with_reducible repeat (first | refine blk_drewN ?_ _ | refine blk_drew ?_ | refine blk_alloc ?_ _)); exact BK302.out) hb)
                          have n1_ := Aside0.mk (blk_below (g := gb303) (o := .cells #[.int .i64 a1_0, .int .i64 a1_1] 101 (0, 0)) (by (with_reducible repeat (first | refine blk_drewN ?_ _ | refine blk_drew ?_ | refine blk_alloc ?_ _)); exact BK303.out) hb)
                          have n2_ := Aside0.mk (blk_below (g := gb304) (o := .cells #[.int .i64 0, .int .i64 0] 101 (0, 0)) (by (with_reducible repeat (first | refine blk_drewN ?_ _ | refine blk_drew ?_ | refine blk_alloc ?_ _)); exact BK304.out) hb)
                          have n3_ := Aside0.mk (below_step (by repeat (first | (with_reducible first | exact HB.out | apply below_alloc | apply pw_below_drewN | apply below_drew1 | refine below_set ?_ GE302.out | refine below_set ?_ GE303.out | refine below_set ?_ GE304.out) | exact HB.out)) hb)
                          clear BK302
                          clear BK303
                          clear BK304
                          clear HB
                          have BK302 := n0_
                          have BK303 := n1_
                          have BK304 := n2_
                          have HB := n3_
                          clear n0_ n1_ n2_ n3_
                          (try clear hb)
                          (try clear hb2)
                          (try clear hk)
                          (try clear hi)
                          refine hK.out _ _ ⟨(blk_cell BK302.out 0).trans rfl, (blk_cell BK302.out 1).trans rfl, (blk_cell BK303.out 0).trans rfl, (blk_cell BK303.out 1).trans rfl⟩ (fun hHeld => ?_)
                          clear hK K
                          refine norm_ (a' := ?_) ?_ ?_
                          rotate_left
                          · show Act.put _ (some 11) _ = _
                            simp only [Act.put, List.setIfInBounds_toArray, List.set_cons_zero, List.set_cons_succ, i64_w, i32_w]
                            rfl
                          exact norm_ (by first | (simp only [putAll, Act.put, List.setIfInBounds_toArray, List.set_cons_zero, List.set_cons_succ]; done) | (simp only [putAll, Act.put, List.setIfInBounds_toArray, List.set_cons_zero, List.set_cons_succ]; rfl)) (hJ4 () _ ⟨hHeld, (by (with_reducible repeat (first | refine blk_drewN ?_ _ | refine blk_drew ?_ | refine blk_alloc ?_ _)); exact BK302.out), (by (with_reducible repeat (first | refine blk_drewN ?_ _ | refine blk_drew ?_ | refine blk_alloc ?_ _)); exact BK303.out), (by (with_reducible repeat (first | refine blk_drewN ?_ _ | refine blk_drew ?_ | refine blk_alloc ?_ _)); exact BK304.out), (by repeat (first | (with_reducible first | exact HB.out | apply below_alloc | apply pw_below_drewN | apply below_drew1 | refine below_set ?_ GE302.out | refine below_set ?_ GE303.out | refine below_set ?_ GE304.out) | exact HB.out))⟩)
                        · skip
                          refine box_step ?hg (N := 5) ?hd (cs := #[.int .i64 0, .int .i64 0]) (t := 101) ?hr ?_; (case hd => rfl); (case hg => rfl); (case hr => first | (go_simp; done) | (go_simp; rfl))
                          intro gb309 hg w9 hbox hb
                          have n0_ := Aside0.mk (blk_below (g := gb302) (o := .cells #[.int .i64 a0_0, .int .i64 a0_1] 101 (0, 0)) (by (with_reducible repeat (first | refine blk_drewN ?_ _ | refine blk_drew ?_ | refine blk_alloc ?_ _)); exact BK302.out) hb)
                          have n1_ := Aside0.mk (blk_below (g := gb303) (o := .cells #[.int .i64 a1_0, .int .i64 a1_1] 101 (0, 0)) (by (with_reducible repeat (first | refine blk_drewN ?_ _ | refine blk_drew ?_ | refine blk_alloc ?_ _)); exact BK303.out) hb)
                          have n2_ := Aside0.mk (blk_below (g := gb304) (o := .cells #[.int .i64 0, .int .i64 0] 101 (0, 0)) (by (with_reducible repeat (first | refine blk_drewN ?_ _ | refine blk_drew ?_ | refine blk_alloc ?_ _)); exact BK304.out) hb)
                          have n3_ := Aside0.mk (below_step (by repeat (first | (with_reducible first | exact HB.out | apply below_alloc | apply pw_below_drewN | apply below_drew1 | refine below_set ?_ GE302.out | refine below_set ?_ GE303.out | refine below_set ?_ GE304.out) | exact HB.out)) hb)
                          have n4_ := Aside0.mk (hbox)
                          have n5_ := Aside0.mk ((by rw [hg]; exact (below_size (by repeat (first | (with_reducible first | exact HB.out | apply below_alloc | apply pw_below_drewN | apply below_drew1 | refine below_set ?_ GE302.out | refine below_set ?_ GE303.out | refine below_set ?_ GE304.out) | exact HB.out))) : w.heap.size ≤ gb309))
                          have n6_ := Aside0.mk ((by rw [hg]; exact (below_size (by repeat (first | (with_reducible first | exact HB.out | apply below_alloc | apply pw_below_drewN | apply below_drew1 | refine below_set ?_ GE302.out | refine below_set ?_ GE303.out | refine below_set ?_ GE304.out) | exact HB.out))) : w.heap.size ≤ gb309))
                          have n7_ := Aside0.mk ((by rw [hg]; exact Nat.ne_of_lt (blk_lt (g := gb302) (o := .cells #[.int .i64 a0_0, .int .i64 a0_1] 101 (0, 0)) (by (with_reducible repeat (first | refine blk_drewN ?_ _ | refine blk_drew ?_ | refine blk_alloc ?_ _)); exact BK302.out)) : gb302 ≠ gb309))
                          have n8_ := Aside0.mk ((by rw [hg]; exact Nat.ne_of_gt (blk_lt (g := gb302) (o := .cells #[.int .i64 a0_0, .int .i64 a0_1] 101 (0, 0)) (by (with_reducible repeat (first | refine blk_drewN ?_ _ | refine blk_drew ?_ | refine blk_alloc ?_ _)); exact BK302.out)) : gb309 ≠ gb302))
                          have n9_ := Aside0.mk ((by rw [hg]; exact Nat.ne_of_lt (blk_lt (g := gb303) (o := .cells #[.int .i64 a1_0, .int .i64 a1_1] 101 (0, 0)) (by (with_reducible repeat (first | refine blk_drewN ?_ _ | refine blk_drew ?_ | refine blk_alloc ?_ _)); exact BK303.out)) : gb303 ≠ gb309))
                          have n10_ := Aside0.mk ((by rw [hg]; exact Nat.ne_of_gt (blk_lt (g := gb303) (o := .cells #[.int .i64 a1_0, .int .i64 a1_1] 101 (0, 0)) (by (with_reducible repeat (first | refine blk_drewN ?_ _ | refine blk_drew ?_ | refine blk_alloc ?_ _)); exact BK303.out)) : gb309 ≠ gb303))
                          have n11_ := Aside0.mk ((by rw [hg]; exact Nat.ne_of_lt (blk_lt (g := gb304) (o := .cells #[.int .i64 0, .int .i64 0] 101 (0, 0)) (by (with_reducible repeat (first | refine blk_drewN ?_ _ | refine blk_drew ?_ | refine blk_alloc ?_ _)); exact BK304.out)) : gb304 ≠ gb309))
                          have n12_ := Aside0.mk ((by rw [hg]; exact Nat.ne_of_gt (blk_lt (g := gb304) (o := .cells #[.int .i64 0, .int .i64 0] 101 (0, 0)) (by (with_reducible repeat (first | refine blk_drewN ?_ _ | refine blk_drew ?_ | refine blk_alloc ?_ _)); exact BK304.out)) : gb309 ≠ gb304))
                          clear BK302
                          clear BK303
                          clear BK304
                          clear HB
                          have BK302 := n0_
                          have BK303 := n1_
                          have BK304 := n2_
                          have HB := n3_
                          have BK309 := n4_
                          have GW309 := n5_
                          have GE309 := n6_
                          have NB302_309 := n7_
                          have NB309_302 := n8_
                          have NB303_309 := n9_
                          have NB309_303 := n10_
                          have NB304_309 := n11_
                          have NB309_304 := n12_
                          clear n0_ n1_ n2_ n3_ n4_ n5_ n6_ n7_ n8_ n9_ n10_ n11_ n12_
                          clear hb hbox hg
                          refine hK.out _ _ ⟨(blk_cell BK302.out 0).trans rfl, (blk_cell BK302.out 1).trans rfl, (blk_cell BK303.out 0).trans rfl, (blk_cell BK303.out 1).trans rfl⟩ (fun hHeld => ?_)
                          clear hK K
                          refine norm_ (a' := ?_) ?_ ?_
                          rotate_left
                          · show Act.put _ (some 5) _ = _
                            simp only [Act.put, List.setIfInBounds_toArray, List.set_cons_zero, List.set_cons_succ, i64_w, i32_w]
                            rfl
                          exact norm_ (by first | (simp only [putAll, Act.put, List.setIfInBounds_toArray, List.set_cons_zero, List.set_cons_succ]; done) | (simp only [putAll, Act.put, List.setIfInBounds_toArray, List.set_cons_zero, List.set_cons_succ]; rfl)) (hJ10 (gb309) _ ⟨hHeld, (by (with_reducible repeat (first | refine blk_drewN ?_ _ | refine blk_drew ?_ | refine blk_alloc ?_ _)); exact BK302.out), (by (with_reducible repeat (first | refine blk_drewN ?_ _ | refine blk_drew ?_ | refine blk_alloc ?_ _)); exact BK303.out), (by (with_reducible repeat (first | refine blk_drewN ?_ _ | refine blk_drew ?_ | refine blk_alloc ?_ _)); exact BK304.out), (by (with_reducible repeat (first | refine blk_drewN ?_ _ | refine blk_drew ?_ | refine blk_alloc ?_ _)); exact BK309.out), GW309.out, GE309.out, NB302_309.out, NB309_302.out, NB303_309.out, NB309_303.out, NB304_309.out, NB309_304.out, (by repeat (first | (with_reducible first | exact HB.out | apply below_alloc | apply pw_below_drewN | apply below_drew1 | refine below_set ?_ GE302.out | refine below_set ?_ GE303.out | refine below_set ?_ GE304.out | refine below_set ?_ GE309.out) | exact HB.out))⟩)
                        · skip
                          refine box_step ?hg (N := 6) ?hd (cs := #[.int .i64 0, .int .i64 0]) (t := 101) ?hr ?_; (case hd => rfl); (case hg => rfl); (case hr => first | (go_simp; done) | (go_simp; rfl))
                          intro gb310 hg w9 hbox hb
                          have n0_ := Aside0.mk (blk_below (g := gb302) (o := .cells #[.int .i64 a0_0, .int .i64 a0_1] 101 (0, 0)) (by (with_reducible repeat (first | refine blk_drewN ?_ _ | refine blk_drew ?_ | refine blk_alloc ?_ _)); exact BK302.out) hb)
                          have n1_ := Aside0.mk (blk_below (g := gb303) (o := .cells #[.int .i64 a1_0, .int .i64 a1_1] 101 (0, 0)) (by (with_reducible repeat (first | refine blk_drewN ?_ _ | refine blk_drew ?_ | refine blk_alloc ?_ _)); exact BK303.out) hb)
                          have n2_ := Aside0.mk (blk_below (g := gb304) (o := .cells #[.int .i64 0, .int .i64 0] 101 (0, 0)) (by (with_reducible repeat (first | refine blk_drewN ?_ _ | refine blk_drew ?_ | refine blk_alloc ?_ _)); exact BK304.out) hb)
                          have n3_ := Aside0.mk (below_step (by repeat (first | (with_reducible first | exact HB.out | apply below_alloc | apply pw_below_drewN | apply below_drew1 | refine below_set ?_ GE302.out | refine below_set ?_ GE303.out | refine below_set ?_ GE304.out) | exact HB.out)) hb)
                          have n4_ := Aside0.mk (hbox)
                          have n5_ := Aside0.mk ((by rw [hg]; exact (below_size (by repeat (first | (with_reducible first | exact HB.out | apply below_alloc | apply pw_below_drewN | apply below_drew1 | refine below_set ?_ GE302.out | refine below_set ?_ GE303.out | refine below_set ?_ GE304.out) | exact HB.out))) : w.heap.size ≤ gb310))
                          have n6_ := Aside0.mk ((by rw [hg]; exact (below_size (by repeat (first | (with_reducible first | exact HB.out | apply below_alloc | apply pw_below_drewN | apply below_drew1 | refine below_set ?_ GE302.out | refine below_set ?_ GE303.out | refine below_set ?_ GE304.out) | exact HB.out))) : w.heap.size ≤ gb310))
                          have n7_ := Aside0.mk ((by rw [hg]; exact Nat.ne_of_lt (blk_lt (g := gb302) (o := .cells #[.int .i64 a0_0, .int .i64 a0_1] 101 (0, 0)) (by (with_reducible repeat (first | refine blk_drewN ?_ _ | refine blk_drew ?_ | refine blk_alloc ?_ _)); exact BK302.out)) : gb302 ≠ gb310))
                          have n8_ := Aside0.mk ((by rw [hg]; exact Nat.ne_of_gt (blk_lt (g := gb302) (o := .cells #[.int .i64 a0_0, .int .i64 a0_1] 101 (0, 0)) (by (with_reducible repeat (first | refine blk_drewN ?_ _ | refine blk_drew ?_ | refine blk_alloc ?_ _)); exact BK302.out)) : gb310 ≠ gb302))
                          have n9_ := Aside0.mk ((by rw [hg]; exact Nat.ne_of_lt (blk_lt (g := gb303) (o := .cells #[.int .i64 a1_0, .int .i64 a1_1] 101 (0, 0)) (by (with_reducible repeat (first | refine blk_drewN ?_ _ | refine blk_drew ?_ | refine blk_alloc ?_ _)); exact BK303.out)) : gb303 ≠ gb310))
                          have n10_ := Aside0.mk ((by rw [hg]; exact Nat.ne_of_gt (blk_lt (g := gb303) (o := .cells #[.int .i64 a1_0, .int .i64 a1_1] 101 (0, 0)) (by (with_reducible repeat (first | refine blk_drewN ?_ _ | refine blk_drew ?_ | refine blk_alloc ?_ _)); exact BK303.out)) : gb310 ≠ gb303))
                          have n11_ := Aside0.mk ((by rw [hg]; exact Nat.ne_of_lt (blk_lt (g := gb304) (o := .cells #[.int .i64 0, .int .i64 0] 101 (0, 0)) (by (with_reducible repeat (first | refine blk_drewN ?_ _ | refine blk_drew ?_ | refine blk_alloc ?_ _)); exact BK304.out)) : gb304 ≠ gb310))
                          have n12_ := Aside0.mk ((by rw [hg]; exact Nat.ne_of_gt (blk_lt (g := gb304) (o := .cells #[.int .i64 0, .int .i64 0] 101 (0, 0)) (by (with_reducible repeat (first | refine blk_drewN ?_ _ | refine blk_drew ?_ | refine blk_alloc ?_ _)); exact BK304.out)) : gb310 ≠ gb304))
                          clear BK302
                          clear BK303
                          clear BK304
                          clear HB
                          have BK302 := n0_
                          have BK303 := n1_
                          have BK304 := n2_
                          have HB := n3_
                          have BK310 := n4_
                          have GW310 := n5_
                          have GE310 := n6_
                          have NB302_310 := n7_
                          have NB310_302 := n8_
                          have NB303_310 := n9_
                          have NB310_303 := n10_
                          have NB304_310 := n11_
                          have NB310_304 := n12_
                          clear n0_ n1_ n2_ n3_ n4_ n5_ n6_ n7_ n8_ n9_ n10_ n11_ n12_
                          clear hb hbox hg
                          refine hK.out _ _ ⟨(blk_cell BK302.out 0).trans rfl, (blk_cell BK302.out 1).trans rfl, (blk_cell BK303.out 0).trans rfl, (blk_cell BK303.out 1).trans rfl⟩ (fun hHeld => ?_)
                          clear hK K
                          refine norm_ (a' := ?_) ?_ ?_
                          rotate_left
                          · show Act.put _ (some 6) _ = _
                            simp only [Act.put, List.setIfInBounds_toArray, List.set_cons_zero, List.set_cons_succ, i64_w, i32_w]
                            rfl
                          exact norm_ (by first | (simp only [putAll, Act.put, List.setIfInBounds_toArray, List.set_cons_zero, List.set_cons_succ]; done) | (simp only [putAll, Act.put, List.setIfInBounds_toArray, List.set_cons_zero, List.set_cons_succ]; rfl)) (hJ11 (gb310) _ ⟨hHeld, (by (with_reducible repeat (first | refine blk_drewN ?_ _ | refine blk_drew ?_ | refine blk_alloc ?_ _)); exact BK302.out), (by (with_reducible repeat (first | refine blk_drewN ?_ _ | refine blk_drew ?_ | refine blk_alloc ?_ _)); exact BK303.out), (by (with_reducible repeat (first | refine blk_drewN ?_ _ | refine blk_drew ?_ | refine blk_alloc ?_ _)); exact BK304.out), (by (with_reducible repeat (first | refine blk_drewN ?_ _ | refine blk_drew ?_ | refine blk_alloc ?_ _)); exact BK310.out), GW310.out, GE310.out, NB302_310.out, NB310_302.out, NB303_310.out, NB310_303.out, NB304_310.out, NB310_304.out, (by repeat (first | (with_reducible first | exact HB.out | apply below_alloc | apply pw_below_drewN | apply below_drew1 | refine below_set ?_ GE302.out | refine below_set ?_ GE303.out | refine below_set ?_ GE304.out | refine below_set ?_ GE310.out) | exact HB.out))⟩)
                      · skip
                        rintro gb310 w10 ⟨hS_, h0_, h1_, h2_, h3_, h4_, h5_, h6_, h7_, h8_, h9_, h10_, h11_, h12_⟩
                        have n0_ : Aside0 (w10.heap[gb302]? = some (.cells #[.int .i64 a0_0, .int .i64 a0_1] 101 (0, 0))) := ⟨h0_⟩
                        have n1_ : Aside0 (w10.heap[gb303]? = some (.cells #[.int .i64 a1_0, .int .i64 a1_1] 101 (0, 0))) := ⟨h1_⟩
                        have n2_ : Aside0 (w10.heap[gb304]? = some (.cells #[.int .i64 0, .int .i64 0] 101 (0, 0))) := ⟨h2_⟩
                        have n3_ : Aside0 (w10.heap[gb310]? = some (.cells #[.int .i64 0, .int .i64 0] 101 (0, 0))) := ⟨h3_⟩
                        have n4_ : Aside0 (w.heap.size ≤ gb310) := ⟨h4_⟩
                        have n5_ : Aside0 (w.heap.size ≤ gb310) := ⟨h5_⟩
                        have n6_ : Aside0 (gb302 ≠ gb310) := ⟨h6_⟩
                        have n7_ : Aside0 (gb310 ≠ gb302) := ⟨h7_⟩
                        have n8_ : Aside0 (gb303 ≠ gb310) := ⟨h8_⟩
                        have n9_ : Aside0 (gb310 ≠ gb303) := ⟨h9_⟩
                        have n10_ : Aside0 (gb304 ≠ gb310) := ⟨h10_⟩
                        have n11_ : Aside0 (gb310 ≠ gb304) := ⟨h11_⟩
                        have n12_ : Aside0 (Below w.heap.size w w10) := ⟨h12_⟩
                        clear BK302
                        clear BK303
                        clear BK304
                        clear HB
                        clear h0_ h1_ h2_ h3_ h4_ h5_ h6_ h7_ h8_ h9_ h10_ h11_ h12_
                        have BK302 := n0_
                        have BK303 := n1_
                        have BK304 := n2_
                        have BK310 := n3_
                        have GW310 := n4_
                        have GE310 := n5_
                        have NB302_310 := n6_
                        have NB310_302 := n7_
                        have NB303_310 := n8_
                        have NB310_303 := n9_
                        have NB304_310 := n10_
                        have NB310_304 := n11_
                        have HB := n12_
                        clear n0_ n1_ n2_ n3_ n4_ n5_ n6_ n7_ n8_ n9_ n10_ n11_ n12_
                        have hHeld : w10.cell? ⟨gb302, 0, none⟩ = some (.int .i64 a0_0) ∧ w10.cell? ⟨gb302, 1, none⟩ = some (.int .i64 a0_1) ∧ w10.cell? ⟨gb303, 0, none⟩ = some (.int .i64 a1_0) ∧ w10.cell? ⟨gb303, 1, none⟩ = some (.int .i64 a1_1) := hS_
                        refine norm_ (a' := ?_) ?_ ?_
                        rotate_left
                        · simp only [putAll, Act.put, List.setIfInBounds_toArray, List.set_cons_zero, List.set_cons_succ]
                          rfl
                        refine two_ (i := 4) (j := 10) (Ni := some 11) (Nj := some 5) #[true, true, true, true, true, true, true, true, true, false, false, true, false, false] #[true, true, true, true, false, true, true, true, true, false, true, true, false, false] rfl rfl rfl rfl (two_of HT_.out (by kernel_rfl)) (by decide) (by decide) (fun K hK => ?_) (fun K hK => ?_)
                        · skip
                          refine goes_ Try.func119 (by kernel_rfl) rfl #[.int .i64 a0_0, .int .i64 a1_1] (by rfl) rfl rfl (by (try simp only [List.map_toArray, List.map_cons, List.map_nil]); first | done | rfl | (simp only [List.length_drop, List.length_take]; rfl)) ?_
                          with_reducible refine (impl_fractionOf.calls k a0_0 a1_1 t305 t306 _ A3.out).mono ?_
                          rintro e w11 ⟨rfl, hb⟩
                          refine ⟨_, rfl, ?_⟩
                          have n0_ := Aside0.mk (blk_below (g := gb302) (o := .cells #[.int .i64 a0_0, .int .i64 a0_1] 101 (0, 0)) (by (with_reducible repeat (first | refine blk_drewN ?_ _ | refine blk_drew ?_ | refine blk_alloc ?_ _)); exact BK302.out) hb)
                          have n1_ := Aside0.mk (blk_below (g := gb303) (o := .cells #[.int .i64 a1_0, .int .i64 a1_1] 101 (0, 0)) (by (with_reducible repeat (first | refine blk_drewN ?_ _ | refine blk_drew ?_ | refine blk_alloc ?_ _)); exact BK303.out) hb)
                          have n2_ := Aside0.mk (blk_below (g := gb304) (o := .cells #[.int .i64 0, .int .i64 0] 101 (0, 0)) (by (with_reducible repeat (first | refine blk_drewN ?_ _ | refine blk_drew ?_ | refine blk_alloc ?_ _)); exact BK304.out) hb)
                          have n3_ := Aside0.mk (blk_below (g := gb310) (o := .cells #[.int .i64 0, .int .i64 0] 101 (0, 0)) (by (with_reducible repeat (first | refine blk_drewN ?_ _ | refine blk_drew ?_ | refine blk_alloc ?_ _)); exact BK310.out) hb)
                          have n4_ := Aside0.mk (below_step (by repeat (first | (with_reducible first | exact HB.out | apply below_alloc | apply pw_below_drewN | apply below_drew1 | refine below_set ?_ GE302.out | refine below_set ?_ GE303.out | refine below_set ?_ GE304.out | refine below_set ?_ GE310.out) | exact HB.out)) hb)
                          clear BK302
                          clear BK303
                          clear BK304
                          clear BK310
                          clear HB
                          have BK302 := n0_
                          have BK303 := n1_
                          have BK304 := n2_
                          have BK310 := n3_
                          have HB := n4_
                          clear n0_ n1_ n2_ n3_ n4_
                          (try clear hb)
                          (try clear hb2)
                          (try clear hk)
                          (try clear hi)
                          refine hK.out _ _ ⟨(blk_cell BK302.out 0).trans rfl, (blk_cell BK302.out 1).trans rfl, (blk_cell BK303.out 0).trans rfl, (blk_cell BK303.out 1).trans rfl⟩ (fun hHeld => ?_)
                          clear hK K
                          refine norm_ (a' := ?_) ?_ ?_
                          rotate_left
                          · show Act.put _ (some 11) _ = _
                            simp only [Act.put, List.setIfInBounds_toArray, List.set_cons_zero, List.set_cons_succ, i64_w, i32_w]
                            rfl
                          exact norm_ (by first | (simp only [putAll, Act.put, List.setIfInBounds_toArray, List.set_cons_zero, List.set_cons_succ]; done) | (simp only [putAll, Act.put, List.setIfInBounds_toArray, List.set_cons_zero, List.set_cons_succ]; rfl)) (hJ4_11 (gb310) _ ⟨hHeld, (by (with_reducible repeat (first | refine blk_drewN ?_ _ | refine blk_drew ?_ | refine blk_alloc ?_ _)); exact BK302.out), (by (with_reducible repeat (first | refine blk_drewN ?_ _ | refine blk_drew ?_ | refine blk_alloc ?_ _)); exact BK303.out), (by (with_reducible repeat (first | refine blk_drewN ?_ _ | refine blk_drew ?_ | refine blk_alloc ?_ _)); exact BK304.out), (by (with_reducible repeat (first | refine blk_drewN ?_ _ | refine blk_drew ?_ | refine blk_alloc ?_ _)); exact BK310.out), GW310.out, GE310.out, NB302_310.out, NB310_302.out, NB303_310.out, NB310_303.out, NB304_310.out, NB310_304.out, (by repeat (first | (with_reducible first | exact HB.out | apply below_alloc | apply pw_below_drewN | apply below_drew1 | refine below_set ?_ GE302.out | refine below_set ?_ GE303.out | refine below_set ?_ GE304.out | refine below_set ?_ GE310.out) | exact HB.out))⟩)
                        · skip
                          refine box_step ?hg (N := 5) ?hd (cs := #[.int .i64 0, .int .i64 0]) (t := 101) ?hr ?_; (case hd => rfl); (case hg => rfl); (case hr => first | (go_simp; done) | (go_simp; rfl))
                          intro gb309 hg w11 hbox hb
                          have n0_ := Aside0.mk (blk_below (g := gb302) (o := .cells #[.int .i64 a0_0, .int .i64 a0_1] 101 (0, 0)) (by (with_reducible repeat (first | refine blk_drewN ?_ _ | refine blk_drew ?_ | refine blk_alloc ?_ _)); exact BK302.out) hb)
                          have n1_ := Aside0.mk (blk_below (g := gb303) (o := .cells #[.int .i64 a1_0, .int .i64 a1_1] 101 (0, 0)) (by (with_reducible repeat (first | refine blk_drewN ?_ _ | refine blk_drew ?_ | refine blk_alloc ?_ _)); exact BK303.out) hb)
                          have n2_ := Aside0.mk (blk_below (g := gb304) (o := .cells #[.int .i64 0, .int .i64 0] 101 (0, 0)) (by (with_reducible repeat (first | refine blk_drewN ?_ _ | refine blk_drew ?_ | refine blk_alloc ?_ _)); exact BK304.out) hb)
                          have n3_ := Aside0.mk (blk_below (g := gb310) (o := .cells #[.int .i64 0, .int .i64 0] 101 (0, 0)) (by (with_reducible repeat (first | refine blk_drewN ?_ _ | refine blk_drew ?_ | refine blk_alloc ?_ _)); exact BK310.out) hb)
                          have n4_ := Aside0.mk (below_step (by repeat (first | (with_reducible first | exact HB.out | apply below_alloc | apply pw_below_drewN | apply below_drew1 | refine below_set ?_ GE302.out | refine below_set ?_ GE303.out | refine below_set ?_ GE304.out | refine below_set ?_ GE310.out) | exact HB.out)) hb)
                          have n5_ := Aside0.mk (hbox)
                          have n6_ := Aside0.mk ((by rw [hg]; exact (below_size (by repeat (first | (with_reducible first | exact HB.out | apply below_alloc | apply pw_below_drewN | apply below_drew1 | refine below_set ?_ GE302.out | refine below_set ?_ GE303.out | refine below_set ?_ GE304.out | refine below_set ?_ GE310.out) | exact HB.out))) : w.heap.size ≤ gb309))
                          have n7_ := Aside0.mk ((by rw [hg]; exact (below_size (by repeat (first | (with_reducible first | exact HB.out | apply below_alloc | apply pw_below_drewN | apply below_drew1 | refine below_set ?_ GE302.out | refine below_set ?_ GE303.out | refine below_set ?_ GE304.out | refine below_set ?_ GE310.out) | exact HB.out))) : w.heap.size ≤ gb309))
                          have n8_ := Aside0.mk ((by rw [hg]; exact Nat.ne_of_lt (blk_lt (g := gb302) (o := .cells #[.int .i64 a0_0, .int .i64 a0_1] 101 (0, 0)) (by (with_reducible repeat (first | refine blk_drewN ?_ _ | refine blk_drew ?_ | refine blk_alloc ?_ _)); exact BK302.out)) : gb302 ≠ gb309))
                          have n9_ := Aside0.mk ((by rw [hg]; exact Nat.ne_of_gt (blk_lt (g := gb302) (o := .cells #[.int .i64 a0_0, .int .i64 a0_1] 101 (0, 0)) (by (with_reducible repeat (first | refine blk_drewN ?_ _ | refine blk_drew ?_ | refine blk_alloc ?_ _)); exact BK302.out)) : gb309 ≠ gb302))
                          have n10_ := Aside0.mk ((by rw [hg]; exact Nat.ne_of_lt (blk_lt (g := gb303) (o := .cells #[.int .i64 a1_0, .int .i64 a1_1] 101 (0, 0)) (by (with_reducible repeat (first | refine blk_drewN ?_ _ | refine blk_drew ?_ | refine blk_alloc ?_ _)); exact BK303.out)) : gb303 ≠ gb309))
                          have n11_ := Aside0.mk ((by rw [hg]; exact Nat.ne_of_gt (blk_lt (g := gb303) (o := .cells #[.int .i64 a1_0, .int .i64 a1_1] 101 (0, 0)) (by (with_reducible repeat (first | refine blk_drewN ?_ _ | refine blk_drew ?_ | refine blk_alloc ?_ _)); exact BK303.out)) : gb309 ≠ gb303))
                          have n12_ := Aside0.mk ((by rw [hg]; exact Nat.ne_of_lt (blk_lt (g := gb304) (o := .cells #[.int .i64 0, .int .i64 0] 101 (0, 0)) (by (with_reducible repeat (first | refine blk_drewN ?_ _ | refine blk_drew ?_ | refine blk_alloc ?_ _)); exact BK304.out)) : gb304 ≠ gb309))
                          have n13_ := Aside0.mk ((by rw [hg]; exact Nat.ne_of_gt (blk_lt (g := gb304) (o := .cells #[.int .i64 0, .int .i64 0] 101 (0, 0)) (by (with_reducible repeat (first | refine blk_drewN ?_ _ | refine blk_drew ?_ | refine blk_alloc ?_ _)); exact BK304.out)) : gb309 ≠ gb304))
                          have n14_ := Aside0.mk ((by rw [hg]; exact Nat.ne_of_lt (blk_lt (g := gb310) (o := .cells #[.int .i64 0, .int .i64 0] 101 (0, 0)) (by (with_reducible repeat (first | refine blk_drewN ?_ _ | refine blk_drew ?_ | refine blk_alloc ?_ _)); exact BK310.out)) : gb310 ≠ gb309))
                          have n15_ := Aside0.mk ((by rw [hg]; exact Nat.ne_of_gt (blk_lt (g := gb310) (o := .cells #[.int .i64 0, .int .i64 0] 101 (0, 0)) (by (with_reducible repeat (first | refine blk_drewN ?_ _ | refine blk_drew ?_ | refine blk_alloc ?_ _)); exact BK310.out)) : gb309 ≠ gb310))
                          clear BK302
                          clear BK303
                          clear BK304
                          clear BK310
                          clear HB
                          have BK302 := n0_
                          have BK303 := n1_
                          have BK304 := n2_
                          have BK310 := n3_
                          have HB := n4_
                          have BK309 := n5_
                          have GW309 := n6_
                          have GE309 := n7_
                          have NB302_309 := n8_
                          have NB309_302 := n9_
                          have NB303_309 := n10_
                          have NB309_303 := n11_
                          have NB304_309 := n12_
                          have NB309_304 := n13_
                          have NB310_309 := n14_
                          have NB309_310 := n15_
                          clear n0_ n1_ n2_ n3_ n4_ n5_ n6_ n7_ n8_ n9_ n10_ n11_ n12_ n13_ n14_ n15_
                          clear hb hbox hg
                          refine hK.out _ _ ⟨(blk_cell BK302.out 0).trans rfl, (blk_cell BK302.out 1).trans rfl, (blk_cell BK303.out 0).trans rfl, (blk_cell BK303.out 1).trans rfl⟩ (fun hHeld => ?_)
                          clear hK K
                          refine norm_ (a' := ?_) ?_ ?_
                          rotate_left
                          · show Act.put _ (some 5) _ = _
                            simp only [Act.put, List.setIfInBounds_toArray, List.set_cons_zero, List.set_cons_succ, i64_w, i32_w]
                            rfl
                          exact norm_ (by first | (simp only [putAll, Act.put, List.setIfInBounds_toArray, List.set_cons_zero, List.set_cons_succ]; done) | (simp only [putAll, Act.put, List.setIfInBounds_toArray, List.set_cons_zero, List.set_cons_succ]; rfl)) (hJ10_11 (gb309, gb310) _ ⟨hHeld, (by (with_reducible repeat (first | refine blk_drewN ?_ _ | refine blk_drew ?_ | refine blk_alloc ?_ _)); exact BK302.out), (by (with_reducible repeat (first | refine blk_drewN ?_ _ | refine blk_drew ?_ | refine blk_alloc ?_ _)); exact BK303.out), (by (with_reducible repeat (first | refine blk_drewN ?_ _ | refine blk_drew ?_ | refine blk_alloc ?_ _)); exact BK304.out), (by (with_reducible repeat (first | refine blk_drewN ?_ _ | refine blk_drew ?_ | refine blk_alloc ?_ _)); exact BK309.out), (by (with_reducible repeat (first | refine blk_drewN ?_ _ | refine blk_drew ?_ | refine blk_alloc ?_ _)); exact BK310.out), GW309.out, GE309.out, NB302_309.out, NB309_302.out, NB303_309.out, NB309_303.out, NB304_309.out, NB309_304.out, NB310_309.out, NB309_310.out, GW310.out, GE310.out, NB302_310.out, NB310_302.out, NB303_310.out, NB310_303.out, NB304_310.out, NB310_304.out, (by repeat (first | (with_reducible first | exact HB.out | apply below_alloc | apply pw_below_drewN | apply below_drew1 | refine below_set ?_ GE302.out | refine below_set ?_ GE303.out | refine below_set ?_ GE304.out | refine below_set ?_ GE310.out | refine below_set ?_ GE309.out) | exact HB.out))⟩)
                    · skip
                      rintro gb309 w10 ⟨hS_, h0_, h1_, h2_, h3_, h4_, h5_, h6_, h7_, h8_, h9_, h10_, h11_, h12_⟩
                      have n0_ : Aside0 (w10.heap[gb302]? = some (.cells #[.int .i64 a0_0, .int .i64 a0_1] 101 (0, 0))) := ⟨h0_⟩
                      have n1_ : Aside0 (w10.heap[gb303]? = some (.cells #[.int .i64 a1_0, .int .i64 a1_1] 101 (0, 0))) := ⟨h1_⟩
                      have n2_ : Aside0 (w10.heap[gb304]? = some (.cells #[.int .i64 0, .int .i64 0] 101 (0, 0))) := ⟨h2_⟩
                      have n3_ : Aside0 (w10.heap[gb309]? = some (.cells #[.int .i64 0, .int .i64 0] 101 (0, 0))) := ⟨h3_⟩
                      have n4_ : Aside0 (w.heap.size ≤ gb309) := ⟨h4_⟩
                      have n5_ : Aside0 (w.heap.size ≤ gb309) := ⟨h5_⟩
                      have n6_ : Aside0 (gb302 ≠ gb309) := ⟨h6_⟩
                      have n7_ : Aside0 (gb309 ≠ gb302) := ⟨h7_⟩
                      have n8_ : Aside0 (gb303 ≠ gb309) := ⟨h8_⟩
                      have n9_ : Aside0 (gb309 ≠ gb303) := ⟨h9_⟩
                      have n10_ : Aside0 (gb304 ≠ gb309) := ⟨h10_⟩
                      have n11_ : Aside0 (gb309 ≠ gb304) := ⟨h11_⟩
                      have n12_ : Aside0 (Below w.heap.size w w10) := ⟨h12_⟩
                      clear BK302
                      clear BK303
                      clear BK304
                      clear HB
                      clear h0_ h1_ h2_ h3_ h4_ h5_ h6_ h7_ h8_ h9_ h10_ h11_ h12_
                      have BK302 := n0_
                      have BK303 := n1_
                      have BK304 := n2_
                      have BK309 := n3_
                      have GW309 := n4_
                      have GE309 := n5_
                      have NB302_309 := n6_
                      have NB309_302 := n7_
                      have NB303_309 := n8_
                      have NB309_303 := n9_
                      have NB304_309 := n10_
                      have NB309_304 := n11_
                      have HB := n12_
                      clear n0_ n1_ n2_ n3_ n4_ n5_ n6_ n7_ n8_ n9_ n10_ n11_ n12_
                      have hHeld : w10.cell? ⟨gb302, 0, none⟩ = some (.int .i64 a0_0) ∧ w10.cell? ⟨gb302, 1, none⟩ = some (.int .i64 a0_1) ∧ w10.cell? ⟨gb303, 0, none⟩ = some (.int .i64 a1_0) ∧ w10.cell? ⟨gb303, 1, none⟩ = some (.int .i64 a1_1) := hS_
                      refine norm_ (a' := ?_) ?_ ?_
                      rotate_left
                      · simp only [putAll, Act.put, List.setIfInBounds_toArray, List.set_cons_zero, List.set_cons_succ]
                        rfl
                      refine two_ (i := 4) (j := 11) (Ni := some 11) (Nj := some 6) #[true, true, true, true, true, true, true, true, true, false, true, false, false, false] #[true, true, true, true, false, true, true, true, true, false, true, true, false, false] rfl rfl rfl rfl (two_of HT_.out (by kernel_rfl)) (by decide) (by decide) (fun K hK => ?_) (fun K hK => ?_)
                      · skip
                        refine goes_ Try.func119 (by kernel_rfl) rfl #[.int .i64 a0_0, .int .i64 a1_1] (by rfl) rfl rfl (by (try simp only [List.map_toArray, List.map_cons, List.map_nil]); first | done | rfl | (simp only [List.length_drop, List.length_take]; rfl)) ?_
                        with_reducible refine (impl_fractionOf.calls k a0_0 a1_1 t305 t306 _ A3.out).mono ?_
                        rintro e w11 ⟨rfl, hb⟩
                        refine ⟨_, rfl, ?_⟩
                        have n0_ := Aside0.mk (blk_below (g := gb302) (o := .cells #[.int .i64 a0_0, .int .i64 a0_1] 101 (0, 0)) (by (with_reducible repeat (first | refine blk_drewN ?_ _ | refine blk_drew ?_ | refine blk_alloc ?_ _)); exact BK302.out) hb)
                        have n1_ := Aside0.mk (blk_below (g := gb303) (o := .cells #[.int .i64 a1_0, .int .i64 a1_1] 101 (0, 0)) (by (with_reducible repeat (first | refine blk_drewN ?_ _ | refine blk_drew ?_ | refine blk_alloc ?_ _)); exact BK303.out) hb)
                        have n2_ := Aside0.mk (blk_below (g := gb304) (o := .cells #[.int .i64 0, .int .i64 0] 101 (0, 0)) (by (with_reducible repeat (first | refine blk_drewN ?_ _ | refine blk_drew ?_ | refine blk_alloc ?_ _)); exact BK304.out) hb)
                        have n3_ := Aside0.mk (blk_below (g := gb309) (o := .cells #[.int .i64 0, .int .i64 0] 101 (0, 0)) (by (with_reducible repeat (first | refine blk_drewN ?_ _ | refine blk_drew ?_ | refine blk_alloc ?_ _)); exact BK309.out) hb)
                        have n4_ := Aside0.mk (below_step (by repeat (first | (with_reducible first | exact HB.out | apply below_alloc | apply pw_below_drewN | apply below_drew1 | refine below_set ?_ GE302.out | refine below_set ?_ GE303.out | refine below_set ?_ GE304.out | refine below_set ?_ GE309.out) | exact HB.out)) hb)
                        clear BK302
                        clear BK303
                        clear BK304
                        clear BK309
                        clear HB
                        have BK302 := n0_
                        have BK303 := n1_
                        have BK304 := n2_
                        have BK309 := n3_
                        have HB := n4_
                        clear n0_ n1_ n2_ n3_ n4_
                        (try clear hb)
                        (try clear hb2)
                        (try clear hk)
                        (try clear hi)
                        refine hK.out _ _ ⟨(blk_cell BK302.out 0).trans rfl, (blk_cell BK302.out 1).trans rfl, (blk_cell BK303.out 0).trans rfl, (blk_cell BK303.out 1).trans rfl⟩ (fun hHeld => ?_)
                        clear hK K
                        refine norm_ (a' := ?_) ?_ ?_
                        rotate_left
                        · show Act.put _ (some 11) _ = _
                          simp only [Act.put, List.setIfInBounds_toArray, List.set_cons_zero, List.set_cons_succ, i64_w, i32_w]
                          rfl
                        exact norm_ (by first | (simp only [putAll, Act.put, List.setIfInBounds_toArray, List.set_cons_zero, List.set_cons_succ]; done) | (simp only [putAll, Act.put, List.setIfInBounds_toArray, List.set_cons_zero, List.set_cons_succ]; rfl)) (hJ4_10 (gb309) _ ⟨hHeld, (by (with_reducible repeat (first | refine blk_drewN ?_ _ | refine blk_drew ?_ | refine blk_alloc ?_ _)); exact BK302.out), (by (with_reducible repeat (first | refine blk_drewN ?_ _ | refine blk_drew ?_ | refine blk_alloc ?_ _)); exact BK303.out), (by (with_reducible repeat (first | refine blk_drewN ?_ _ | refine blk_drew ?_ | refine blk_alloc ?_ _)); exact BK304.out), (by (with_reducible repeat (first | refine blk_drewN ?_ _ | refine blk_drew ?_ | refine blk_alloc ?_ _)); exact BK309.out), GW309.out, GE309.out, NB302_309.out, NB309_302.out, NB303_309.out, NB309_303.out, NB304_309.out, NB309_304.out, (by repeat (first | (with_reducible first | exact HB.out | apply below_alloc | apply pw_below_drewN | apply below_drew1 | refine below_set ?_ GE302.out | refine below_set ?_ GE303.out | refine below_set ?_ GE304.out | refine below_set ?_ GE309.out) | exact HB.out))⟩)
                      · skip
                        refine box_step ?hg (N := 6) ?hd (cs := #[.int .i64 0, .int .i64 0]) (t := 101) ?hr ?_; (case hd => rfl); (case hg => rfl); (case hr => first | (go_simp; done) | (go_simp; rfl))
                        intro gb310 hg w11 hbox hb
                        have n0_ := Aside0.mk (blk_below (g := gb302) (o := .cells #[.int .i64 a0_0, .int .i64 a0_1] 101 (0, 0)) (by (with_reducible repeat (first | refine blk_drewN ?_ _ | refine blk_drew ?_ | refine blk_alloc ?_ _)); exact BK302.out) hb)
                        have n1_ := Aside0.mk (blk_below (g := gb303) (o := .cells #[.int .i64 a1_0, .int .i64 a1_1] 101 (0, 0)) (by (with_reducible repeat (first | refine blk_drewN ?_ _ | refine blk_drew ?_ | refine blk_alloc ?_ _)); exact BK303.out) hb)
                        have n2_ := Aside0.mk (blk_below (g := gb304) (o := .cells #[.int .i64 0, .int .i64 0] 101 (0, 0)) (by (with_reducible repeat (first | refine blk_drewN ?_ _ | refine blk_drew ?_ | refine blk_alloc ?_ _)); exact BK304.out) hb)
                        have n3_ := Aside0.mk (blk_below (g := gb309) (o := .cells #[.int .i64 0, .int .i64 0] 101 (0, 0)) (by (with_reducible repeat (first | refine blk_drewN ?_ _ | refine blk_drew ?_ | refine blk_alloc ?_ _)); exact BK309.out) hb)
                        have n4_ := Aside0.mk (below_step (by repeat (first | (with_reducible first | exact HB.out | apply below_alloc | apply pw_below_drewN | apply below_drew1 | refine below_set ?_ GE302.out | refine below_set ?_ GE303.out | refine below_set ?_ GE304.out | refine below_set ?_ GE309.out) | exact HB.out)) hb)
                        have n5_ := Aside0.mk (hbox)
                        have n6_ := Aside0.mk ((by rw [hg]; exact (below_size (by repeat (first | (with_reducible first | exact HB.out | apply below_alloc | apply pw_below_drewN | apply below_drew1 | refine below_set ?_ GE302.out | refine below_set ?_ GE303.out | refine below_set ?_ GE304.out | refine below_set ?_ GE309.out) | exact HB.out))) : w.heap.size ≤ gb310))
                        have n7_ := Aside0.mk ((by rw [hg]; exact (below_size (by repeat (first | (with_reducible first | exact HB.out | apply below_alloc | apply pw_below_drewN | apply below_drew1 | refine below_set ?_ GE302.out | refine below_set ?_ GE303.out | refine below_set ?_ GE304.out | refine below_set ?_ GE309.out) | exact HB.out))) : w.heap.size ≤ gb310))
                        have n8_ := Aside0.mk ((by rw [hg]; exact Nat.ne_of_lt (blk_lt (g := gb302) (o := .cells #[.int .i64 a0_0, .int .i64 a0_1] 101 (0, 0)) (by (with_reducible repeat (first | refine blk_drewN ?_ _ | refine blk_drew ?_ | refine blk_alloc ?_ _)); exact BK302.out)) : gb302 ≠ gb310))
                        have n9_ := Aside0.mk ((by rw [hg]; exact Nat.ne_of_gt (blk_lt (g := gb302) (o := .cells #[.int .i64 a0_0, .int .i64 a0_1] 101 (0, 0)) (by (with_reducible repeat (first | refine blk_drewN ?_ _ | refine blk_drew ?_ | refine blk_alloc ?_ _)); exact BK302.out)) : gb310 ≠ gb302))
                        have n10_ := Aside0.mk ((by rw [hg]; exact Nat.ne_of_lt (blk_lt (g := gb303) (o := .cells #[.int .i64 a1_0, .int .i64 a1_1] 101 (0, 0)) (by (with_reducible repeat (first | refine blk_drewN ?_ _ | refine blk_drew ?_ | refine blk_alloc ?_ _)); exact BK303.out)) : gb303 ≠ gb310))
                        have n11_ := Aside0.mk ((by rw [hg]; exact Nat.ne_of_gt (blk_lt (g := gb303) (o := .cells #[.int .i64 a1_0, .int .i64 a1_1] 101 (0, 0)) (by (with_reducible repeat (first | refine blk_drewN ?_ _ | refine blk_drew ?_ | refine blk_alloc ?_ _)); exact BK303.out)) : gb310 ≠ gb303))
                        have n12_ := Aside0.mk ((by rw [hg]; exact Nat.ne_of_lt (blk_lt (g := gb304) (o := .cells #[.int .i64 0, .int .i64 0] 101 (0, 0)) (by (with_reducible repeat (first | refine blk_drewN ?_ _ | refine blk_drew ?_ | refine blk_alloc ?_ _)); exact BK304.out)) : gb304 ≠ gb310))
                        have n13_ := Aside0.mk ((by rw [hg]; exact Nat.ne_of_gt (blk_lt (g := gb304) (o := .cells #[.int .i64 0, .int .i64 0] 101 (0, 0)) (by (with_reducible repeat (first | refine blk_drewN ?_ _ | refine blk_drew ?_ | refine blk_alloc ?_ _)); exact BK304.out)) : gb310 ≠ gb304))
                        have n14_ := Aside0.mk ((by rw [hg]; exact Nat.ne_of_lt (blk_lt (g := gb309) (o := .cells #[.int .i64 0, .int .i64 0] 101 (0, 0)) (by (with_reducible repeat (first | refine blk_drewN ?_ _ | refine blk_drew ?_ | refine blk_alloc ?_ _)); exact BK309.out)) : gb309 ≠ gb310))
                        have n15_ := Aside0.mk ((by rw [hg]; exact Nat.ne_of_gt (blk_lt (g := gb309) (o := .cells #[.int .i64 0, .int .i64 0] 101 (0, 0)) (by (with_reducible repeat (first | refine blk_drewN ?_ _ | refine blk_drew ?_ | refine blk_alloc ?_ _)); exact BK309.out)) : gb310 ≠ gb309))
                        clear BK302
                        clear BK303
                        clear BK304
                        clear BK309
                        clear HB
                        have BK302 := n0_
                        have BK303 := n1_
                        have BK304 := n2_
                        have BK309 := n3_
                        have HB := n4_
                        have BK310 := n5_
                        have GW310 := n6_
                        have GE310 := n7_
                        have NB302_310 := n8_
                        have NB310_302 := n9_
                        have NB303_310 := n10_
                        have NB310_303 := n11_
                        have NB304_310 := n12_
                        have NB310_304 := n13_
                        have NB309_310 := n14_
                        have NB310_309 := n15_
                        clear n0_ n1_ n2_ n3_ n4_ n5_ n6_ n7_ n8_ n9_ n10_ n11_ n12_ n13_ n14_ n15_
                        clear hb hbox hg
                        refine hK.out _ _ ⟨(blk_cell BK302.out 0).trans rfl, (blk_cell BK302.out 1).trans rfl, (blk_cell BK303.out 0).trans rfl, (blk_cell BK303.out 1).trans rfl⟩ (fun hHeld => ?_)
                        clear hK K
                        refine norm_ (a' := ?_) ?_ ?_
                        rotate_left
                        · show Act.put _ (some 6) _ = _
                          simp only [Act.put, List.setIfInBounds_toArray, List.set_cons_zero, List.set_cons_succ, i64_w, i32_w]
                          rfl
                        exact norm_ (by first | (simp only [putAll, Act.put, List.setIfInBounds_toArray, List.set_cons_zero, List.set_cons_succ]; done) | (simp only [putAll, Act.put, List.setIfInBounds_toArray, List.set_cons_zero, List.set_cons_succ]; rfl)) (hJ10_11 (gb309, gb310) _ ⟨hHeld, (by (with_reducible repeat (first | refine blk_drewN ?_ _ | refine blk_drew ?_ | refine blk_alloc ?_ _)); exact BK302.out), (by (with_reducible repeat (first | refine blk_drewN ?_ _ | refine blk_drew ?_ | refine blk_alloc ?_ _)); exact BK303.out), (by (with_reducible repeat (first | refine blk_drewN ?_ _ | refine blk_drew ?_ | refine blk_alloc ?_ _)); exact BK304.out), (by (with_reducible repeat (first | refine blk_drewN ?_ _ | refine blk_drew ?_ | refine blk_alloc ?_ _)); exact BK309.out), (by (with_reducible repeat (first | refine blk_drewN ?_ _ | refine blk_drew ?_ | refine blk_alloc ?_ _)); exact BK310.out), GW309.out, GE309.out, NB302_309.out, NB309_302.out, NB303_309.out, NB309_303.out, NB304_309.out, NB309_304.out, NB310_309.out, NB309_310.out, GW310.out, GE310.out, NB302_310.out, NB310_302.out, NB303_310.out, NB310_303.out, NB304_310.out, NB310_304.out, (by repeat (first | (with_reducible first | exact HB.out | apply below_alloc | apply pw_below_drewN | apply below_drew1 | refine below_set ?_ GE302.out | refine below_set ?_ GE303.out | refine below_set ?_ GE304.out | refine below_set ?_ GE309.out | refine below_set ?_ GE310.out) | exact HB.out))⟩)
                  · skip
                    rintro _ w10 ⟨hS_, h0_, h1_, h2_, h3_⟩
                    have n0_ : Aside0 (w10.heap[gb302]? = some (.cells #[.int .i64 a0_0, .int .i64 a0_1] 101 (0, 0))) := ⟨h0_⟩
                    have n1_ : Aside0 (w10.heap[gb303]? = some (.cells #[.int .i64 a1_0, .int .i64 a1_1] 101 (0, 0))) := ⟨h1_⟩
                    have n2_ : Aside0 (w10.heap[gb304]? = some (.cells #[.int .i64 0, .int .i64 0] 101 (0, 0))) := ⟨h2_⟩
                    have n3_ : Aside0 (Below w.heap.size w w10) := ⟨h3_⟩
                    clear BK302
                    clear BK303
                    clear BK304
                    clear HB
                    clear h0_ h1_ h2_ h3_
                    have BK302 := n0_
                    have BK303 := n1_
                    have BK304 := n2_
                    have HB := n3_
                    clear n0_ n1_ n2_ n3_
                    have hHeld : w10.cell? ⟨gb302, 0, none⟩ = some (.int .i64 a0_0) ∧ w10.cell? ⟨gb302, 1, none⟩ = some (.int .i64 a0_1) ∧ w10.cell? ⟨gb303, 0, none⟩ = some (.int .i64 a1_0) ∧ w10.cell? ⟨gb303, 1, none⟩ = some (.int .i64 a1_1) := hS_
                    refine norm_ (a' := ?_) ?_ ?_
                    rotate_left
                    · simp only [putAll, Act.put, List.setIfInBounds_toArray, List.set_cons_zero, List.set_cons_succ]
                      rfl
                    refine three_ (i := 9) (j := 10) (k := 11) (Ni := some 16) (Nj := some 5) (Nk := some 6) #[true, true, true, true, true, true, true, true, true, true, false, false, false, false] #[true, true, true, true, true, true, true, true, true, false, true, false, false, false] #[true, true, true, true, true, true, true, true, true, false, false, true, false, false] rfl rfl rfl rfl rfl rfl (three_of HT_.out (by kernel_rfl)) (by decide) (by decide) (by decide) (fun K hK => ?_) (fun K hK => ?_) (fun K hK => ?_)
                    · skip
                      refine goes_ Try.func119 (by kernel_rfl) rfl #[.int .i64 a1_0, .int .i64 a0_1] (by rfl) rfl rfl (by (try simp only [List.map_toArray, List.map_cons, List.map_nil]); first | done | rfl | (simp only [List.length_drop, List.length_take]; rfl)) ?_
                      with_reducible refine (impl_fractionOf.calls k a1_0 a0_1 t307 t308 _ A4.out).mono ?_
                      rintro e w11 ⟨rfl, hb⟩
                      refine ⟨_, rfl, ?_⟩
                      have n0_ := Aside0.mk (blk_below (g := gb302) (o := .cells #[.int .i64 a0_0, .int .i64 a0_1] 101 (0, 0)) (by (with_reducible repeat (first | refine blk_drewN ?_ _ | refine blk_drew ?_ | refine blk_alloc ?_ _)); exact BK302.out) hb)
                      have n1_ := Aside0.mk (blk_below (g := gb303) (o := .cells #[.int .i64 a1_0, .int .i64 a1_1] 101 (0, 0)) (by (with_reducible repeat (first | refine blk_drewN ?_ _ | refine blk_drew ?_ | refine blk_alloc ?_ _)); exact BK303.out) hb)
                      have n2_ := Aside0.mk (blk_below (g := gb304) (o := .cells #[.int .i64 0, .int .i64 0] 101 (0, 0)) (by (with_reducible repeat (first | refine blk_drewN ?_ _ | refine blk_drew ?_ | refine blk_alloc ?_ _)); exact BK304.out) hb)
                      have n3_ := Aside0.mk (below_step (by repeat (first | (with_reducible first | exact HB.out | apply below_alloc | apply pw_below_drewN | apply below_drew1 | refine below_set ?_ GE302.out | refine below_set ?_ GE303.out | refine below_set ?_ GE304.out) | exact HB.out)) hb)
                      clear BK302
                      clear BK303
                      clear BK304
                      clear HB
                      have BK302 := n0_
                      have BK303 := n1_
                      have BK304 := n2_
                      have HB := n3_
                      clear n0_ n1_ n2_ n3_
                      (try clear hb)
                      (try clear hb2)
                      (try clear hk)
                      (try clear hi)
                      refine hK.out _ _ ⟨(blk_cell BK302.out 0).trans rfl, (blk_cell BK302.out 1).trans rfl, (blk_cell BK303.out 0).trans rfl, (blk_cell BK303.out 1).trans rfl⟩ (fun hHeld => ?_)
                      clear hK K
                      refine norm_ (a' := ?_) ?_ ?_
                      rotate_left
                      · show Act.put _ (some 16) _ = _
                        simp only [Act.put, List.setIfInBounds_toArray, List.set_cons_zero, List.set_cons_succ, i64_w, i32_w]
                        rfl
                      exact norm_ (by first | (simp only [putAll, Act.put, List.setIfInBounds_toArray, List.set_cons_zero, List.set_cons_succ]; done) | (simp only [putAll, Act.put, List.setIfInBounds_toArray, List.set_cons_zero, List.set_cons_succ]; rfl)) (hJ4_9 () _ ⟨hHeld, (by (with_reducible repeat (first | refine blk_drewN ?_ _ | refine blk_drew ?_ | refine blk_alloc ?_ _)); exact BK302.out), (by (with_reducible repeat (first | refine blk_drewN ?_ _ | refine blk_drew ?_ | refine blk_alloc ?_ _)); exact BK303.out), (by (with_reducible repeat (first | refine blk_drewN ?_ _ | refine blk_drew ?_ | refine blk_alloc ?_ _)); exact BK304.out), (by repeat (first | (with_reducible first | exact HB.out | apply below_alloc | apply pw_below_drewN | apply below_drew1 | refine below_set ?_ GE302.out | refine below_set ?_ GE303.out | refine below_set ?_ GE304.out) | exact HB.out))⟩)
                    · skip
                      refine box_step ?hg (N := 5) ?hd (cs := #[.int .i64 0, .int .i64 0]) (t := 101) ?hr ?_; (case hd => rfl); (case hg => rfl); (case hr => first | (go_simp; done) | (go_simp; rfl))
                      intro gb309 hg w11 hbox hb
                      have n0_ := Aside0.mk (blk_below (g := gb302) (o := .cells #[.int .i64 a0_0, .int .i64 a0_1] 101 (0, 0)) (by (with_reducible repeat (first | refine blk_drewN ?_ _ | refine blk_drew ?_ | refine blk_alloc ?_ _)); exact BK302.out) hb)
                      have n1_ := Aside0.mk (blk_below (g := gb303) (o := .cells #[.int .i64 a1_0, .int .i64 a1_1] 101 (0, 0)) (by (with_reducible repeat (first | refine blk_drewN ?_ _ | refine blk_drew ?_ | refine blk_alloc ?_ _)); exact BK303.out) hb)
                      have n2_ := Aside0.mk (blk_below (g := gb304) (o := .cells #[.int .i64 0, .int .i64 0] 101 (0, 0)) (by (with_reducible repeat (first | refine blk_drewN ?_ _ | refine blk_drew ?_ | refine blk_alloc ?_ _)); exact BK304.out) hb)
                      have n3_ := Aside0.mk (below_step (by repeat (first | (with_reducible first | exact HB.out | apply below_alloc | apply pw_below_drewN | apply below_drew1 | refine below_set ?_ GE302.out | refine below_set ?_ GE303.out | refine below_set ?_ GE304.out) | exact HB.out)) hb)
                      have n4_ := Aside0.mk (hbox)
                      have n5_ := Aside0.mk ((by rw [hg]; exact (below_size (by repeat (first | (with_reducible first | exact HB.out | apply below_alloc | apply pw_below_drewN | apply below_drew1 | refine below_set ?_ GE302.out | refine below_set ?_ GE303.out | refine below_set ?_ GE304.out) | exact HB.out))) : w.heap.size ≤ gb309))
                      have n6_ := Aside0.mk ((by rw [hg]; exact (below_size (by repeat (first | (with_reducible first | exact HB.out | apply below_alloc | apply pw_below_drewN | apply below_drew1 | refine below_set ?_ GE302.out | refine below_set ?_ GE303.out | refine below_set ?_ GE304.out) | exact HB.out))) : w.heap.size ≤ gb309))
                      have n7_ := Aside0.mk ((by rw [hg]; exact Nat.ne_of_lt (blk_lt (g := gb302) (o := .cells #[.int .i64 a0_0, .int .i64 a0_1] 101 (0, 0)) (by (with_reducible repeat (first | refine blk_drewN ?_ _ | refine blk_drew ?_ | refine blk_alloc ?_ _)); exact BK302.out)) : gb302 ≠ gb309))
                      have n8_ := Aside0.mk ((by rw [hg]; exact Nat.ne_of_gt (blk_lt (g := gb302) (o := .cells #[.int .i64 a0_0, .int .i64 a0_1] 101 (0, 0)) (by (with_reducible repeat (first | refine blk_drewN ?_ _ | refine blk_drew ?_ | refine blk_alloc ?_ _)); exact BK302.out)) : gb309 ≠ gb302))
                      have n9_ := Aside0.mk ((by rw [hg]; exact Nat.ne_of_lt (blk_lt (g := gb303) (o := .cells #[.int .i64 a1_0, .int .i64 a1_1] 101 (0, 0)) (by (with_reducible repeat (first | refine blk_drewN ?_ _ | refine blk_drew ?_ | refine blk_alloc ?_ _)); exact BK303.out)) : gb303 ≠ gb309))
                      have n10_ := Aside0.mk ((by rw [hg]; exact Nat.ne_of_gt (blk_lt (g := gb303) (o := .cells #[.int .i64 a1_0, .int .i64 a1_1] 101 (0, 0)) (by (with_reducible repeat (first | refine blk_drewN ?_ _ | refine blk_drew ?_ | refine blk_alloc ?_ _)); exact BK303.out)) : gb309 ≠ gb303))
                      have n11_ := Aside0.mk ((by rw [hg]; exact Nat.ne_of_lt (blk_lt (g := gb304) (o := .cells #[.int .i64 0, .int .i64 0] 101 (0, 0)) (by (with_reducible repeat (first | refine blk_drewN ?_ _ | refine blk_drew ?_ | refine blk_alloc ?_ _)); exact BK304.out)) : gb304 ≠ gb309))
                      have n12_ := Aside0.mk ((by rw [hg]; exact Nat.ne_of_gt (blk_lt (g := gb304) (o := .cells #[.int .i64 0, .int .i64 0] 101 (0, 0)) (by (with_reducible repeat (first | refine blk_drewN ?_ _ | refine blk_drew ?_ | refine blk_alloc ?_ _)); exact BK304.out)) : gb309 ≠ gb304))
                      clear BK302
                      clear BK303
                      clear BK304
                      clear HB
                      have BK302 := n0_
                      have BK303 := n1_
                      have BK304 := n2_
                      have HB := n3_
                      have BK309 := n4_
                      have GW309 := n5_
                      have GE309 := n6_
                      have NB302_309 := n7_
                      have NB309_302 := n8_
                      have NB303_309 := n9_
                      have NB309_303 := n10_
                      have NB304_309 := n11_
                      have NB309_304 := n12_
                      clear n0_ n1_ n2_ n3_ n4_ n5_ n6_ n7_ n8_ n9_ n10_ n11_ n12_
                      clear hb hbox hg
                      refine hK.out _ _ ⟨(blk_cell BK302.out 0).trans rfl, (blk_cell BK302.out 1).trans rfl, (blk_cell BK303.out 0).trans rfl, (blk_cell BK303.out 1).trans rfl⟩ (fun hHeld => ?_)
                      clear hK K
                      refine norm_ (a' := ?_) ?_ ?_
                      rotate_left
                      · show Act.put _ (some 5) _ = _
                        simp only [Act.put, List.setIfInBounds_toArray, List.set_cons_zero, List.set_cons_succ, i64_w, i32_w]
                        rfl
                      exact norm_ (by first | (simp only [putAll, Act.put, List.setIfInBounds_toArray, List.set_cons_zero, List.set_cons_succ]; done) | (simp only [putAll, Act.put, List.setIfInBounds_toArray, List.set_cons_zero, List.set_cons_succ]; rfl)) (hJ4_10 (gb309) _ ⟨hHeld, (by (with_reducible repeat (first | refine blk_drewN ?_ _ | refine blk_drew ?_ | refine blk_alloc ?_ _)); exact BK302.out), (by (with_reducible repeat (first | refine blk_drewN ?_ _ | refine blk_drew ?_ | refine blk_alloc ?_ _)); exact BK303.out), (by (with_reducible repeat (first | refine blk_drewN ?_ _ | refine blk_drew ?_ | refine blk_alloc ?_ _)); exact BK304.out), (by (with_reducible repeat (first | refine blk_drewN ?_ _ | refine blk_drew ?_ | refine blk_alloc ?_ _)); exact BK309.out), GW309.out, GE309.out, NB302_309.out, NB309_302.out, NB303_309.out, NB309_303.out, NB304_309.out, NB309_304.out, (by repeat (first | (with_reducible first | exact HB.out | apply below_alloc | apply pw_below_drewN | apply below_drew1 | refine below_set ?_ GE302.out | refine below_set ?_ GE303.out | refine below_set ?_ GE304.out | refine below_set ?_ GE309.out) | exact HB.out))⟩)
                    · skip
                      refine box_step ?hg (N := 6) ?hd (cs := #[.int .i64 0, .int .i64 0]) (t := 101) ?hr ?_; (case hd => rfl); (case hg => rfl); (case hr => first | (go_simp; done) | (go_simp; rfl))
                      intro gb310 hg w11 hbox hb
                      have n0_ := Aside0.mk (blk_below (g := gb302) (o := .cells #[.int .i64 a0_0, .int .i64 a0_1] 101 (0, 0)) (by (with_reducible repeat (first | refine blk_drewN ?_ _ | refine blk_drew ?_ | refine blk_alloc ?_ _)); exact BK302.out) hb)
                      have n1_ := Aside0.mk (blk_below (g := gb303) (o := .cells #[.int .i64 a1_0, .int .i64 a1_1] 101 (0, 0)) (by (with_reducible repeat (first | refine blk_drewN ?_ _ | refine blk_drew ?_ | refine blk_alloc ?_ _)); exact BK303.out) hb)
                      have n2_ := Aside0.mk (blk_below (g := gb304) (o := .cells #[.int .i64 0, .int .i64 0] 101 (0, 0)) (by (with_reducible repeat (first | refine blk_drewN ?_ _ | refine blk_drew ?_ | refine blk_alloc ?_ _)); exact BK304.out) hb)
                      have n3_ := Aside0.mk (below_step (by repeat (first | (with_reducible first | exact HB.out | apply below_alloc | apply pw_below_drewN | apply below_drew1 | refine below_set ?_ GE302.out | refine below_set ?_ GE303.out | refine below_set ?_ GE304.out) | exact HB.out)) hb)
                      have n4_ := Aside0.mk (hbox)
                      have n5_ := Aside0.mk ((by rw [hg]; exact (below_size (by repeat (first | (with_reducible first | exact HB.out | apply below_alloc | apply pw_below_drewN | apply below_drew1 | refine below_set ?_ GE302.out | refine below_set ?_ GE303.out | refine below_set ?_ GE304.out) | exact HB.out))) : w.heap.size ≤ gb310))
                      have n6_ := Aside0.mk ((by rw [hg]; exact (below_size (by repeat (first | (with_reducible first | exact HB.out | apply below_alloc | apply pw_below_drewN | apply below_drew1 | refine below_set ?_ GE302.out | refine below_set ?_ GE303.out | refine below_set ?_ GE304.out) | exact HB.out))) : w.heap.size ≤ gb310))
                      have n7_ := Aside0.mk ((by rw [hg]; exact Nat.ne_of_lt (blk_lt (g := gb302) (o := .cells #[.int .i64 a0_0, .int .i64 a0_1] 101 (0, 0)) (by (with_reducible repeat (first | refine blk_drewN ?_ _ | refine blk_drew ?_ | refine blk_alloc ?_ _)); exact BK302.out)) : gb302 ≠ gb310))
                      have n8_ := Aside0.mk ((by rw [hg]; exact Nat.ne_of_gt (blk_lt (g := gb302) (o := .cells #[.int .i64 a0_0, .int .i64 a0_1] 101 (0, 0)) (by (with_reducible repeat (first | refine blk_drewN ?_ _ | refine blk_drew ?_ | refine blk_alloc ?_ _)); exact BK302.out)) : gb310 ≠ gb302))
                      have n9_ := Aside0.mk ((by rw [hg]; exact Nat.ne_of_lt (blk_lt (g := gb303) (o := .cells #[.int .i64 a1_0, .int .i64 a1_1] 101 (0, 0)) (by (with_reducible repeat (first | refine blk_drewN ?_ _ | refine blk_drew ?_ | refine blk_alloc ?_ _)); exact BK303.out)) : gb303 ≠ gb310))
                      have n10_ := Aside0.mk ((by rw [hg]; exact Nat.ne_of_gt (blk_lt (g := gb303) (o := .cells #[.int .i64 a1_0, .int .i64 a1_1] 101 (0, 0)) (by (with_reducible repeat (first | refine blk_drewN ?_ _ | refine blk_drew ?_ | refine blk_alloc ?_ _)); exact BK303.out)) : gb310 ≠ gb303))
                      have n11_ := Aside0.mk ((by rw [hg]; exact Nat.ne_of_lt (blk_lt (g := gb304) (o := .cells #[.int .i64 0, .int .i64 0] 101 (0, 0)) (by (with_reducible repeat (first | refine blk_drewN ?_ _ | refine blk_drew ?_ | refine blk_alloc ?_ _)); exact BK304.out)) : gb304 ≠ gb310))
                      have n12_ := Aside0.mk ((by rw [hg]; exact Nat.ne_of_gt (blk_lt (g := gb304) (o := .cells #[.int .i64 0, .int .i64 0] 101 (0, 0)) (by (with_reducible repeat (first | refine blk_drewN ?_ _ | refine blk_drew ?_ | refine blk_alloc ?_ _)); exact BK304.out)) : gb310 ≠ gb304))
                      clear BK302
                      clear BK303
                      clear BK304
                      clear HB
                      have BK302 := n0_
                      have BK303 := n1_
                      have BK304 := n2_
                      have HB := n3_
                      have BK310 := n4_
                      have GW310 := n5_
                      have GE310 := n6_
                      have NB302_310 := n7_
                      have NB310_302 := n8_
                      have NB303_310 := n9_
                      have NB310_303 := n10_
                      have NB304_310 := n11_
                      have NB310_304 := n12_
                      clear n0_ n1_ n2_ n3_ n4_ n5_ n6_ n7_ n8_ n9_ n10_ n11_ n12_
                      clear hb hbox hg
                      refine hK.out _ _ ⟨(blk_cell BK302.out 0).trans rfl, (blk_cell BK302.out 1).trans rfl, (blk_cell BK303.out 0).trans rfl, (blk_cell BK303.out 1).trans rfl⟩ (fun hHeld => ?_)
                      clear hK K
                      refine norm_ (a' := ?_) ?_ ?_
                      rotate_left
                      · show Act.put _ (some 6) _ = _
                        simp only [Act.put, List.setIfInBounds_toArray, List.set_cons_zero, List.set_cons_succ, i64_w, i32_w]
                        rfl
                      exact norm_ (by first | (simp only [putAll, Act.put, List.setIfInBounds_toArray, List.set_cons_zero, List.set_cons_succ]; done) | (simp only [putAll, Act.put, List.setIfInBounds_toArray, List.set_cons_zero, List.set_cons_succ]; rfl)) (hJ4_11 (gb310) _ ⟨hHeld, (by (with_reducible repeat (first | refine blk_drewN ?_ _ | refine blk_drew ?_ | refine blk_alloc ?_ _)); exact BK302.out), (by (with_reducible repeat (first | refine blk_drewN ?_ _ | refine blk_drew ?_ | refine blk_alloc ?_ _)); exact BK303.out), (by (with_reducible repeat (first | refine blk_drewN ?_ _ | refine blk_drew ?_ | refine blk_alloc ?_ _)); exact BK304.out), (by (with_reducible repeat (first | refine blk_drewN ?_ _ | refine blk_drew ?_ | refine blk_alloc ?_ _)); exact BK310.out), GW310.out, GE310.out, NB302_310.out, NB310_302.out, NB303_310.out, NB310_303.out, NB304_310.out, NB310_304.out, (by repeat (first | (with_reducible first | exact HB.out | apply below_alloc | apply pw_below_drewN | apply below_drew1 | refine below_set ?_ GE302.out | refine below_set ?_ GE303.out | refine below_set ?_ GE304.out | refine below_set ?_ GE310.out) | exact HB.out))⟩)
                · skip
                  rintro ⟨gb309, gb310⟩ w11 ⟨hS_, h0_, h1_, h2_, h3_, h4_, h5_, h6_, h7_, h8_, h9_, h10_, h11_, h12_, h13_, h14_, h15_, h16_, h17_, h18_, h19_, h20_, h21_, h22_, h23_⟩
                  have n0_ : Aside0 (w11.heap[gb302]? = some (.cells #[.int .i64 a0_0, .int .i64 a0_1] 101 (0, 0))) := ⟨h0_⟩
                  have n1_ : Aside0 (w11.heap[gb303]? = some (.cells #[.int .i64 a1_0, .int .i64 a1_1] 101 (0, 0))) := ⟨h1_⟩
                  have n2_ : Aside0 (w11.heap[gb304]? = some (.cells #[.int .i64 0, .int .i64 0] 101 (0, 0))) := ⟨h2_⟩
                  have n3_ : Aside0 (w11.heap[gb309]? = some (.cells #[.int .i64 0, .int .i64 0] 101 (0, 0))) := ⟨h3_⟩
                  have n4_ : Aside0 (w11.heap[gb310]? = some (.cells #[.int .i64 0, .int .i64 0] 101 (0, 0))) := ⟨h4_⟩
                  have n5_ : Aside0 (w.heap.size ≤ gb309) := ⟨h5_⟩
                  have n6_ : Aside0 (w.heap.size ≤ gb309) := ⟨h6_⟩
                  have n7_ : Aside0 (gb302 ≠ gb309) := ⟨h7_⟩
                  have n8_ : Aside0 (gb309 ≠ gb302) := ⟨h8_⟩
                  have n9_ : Aside0 (gb303 ≠ gb309) := ⟨h9_⟩
                  have n10_ : Aside0 (gb309 ≠ gb303) := ⟨h10_⟩
                  have n11_ : Aside0 (gb304 ≠ gb309) := ⟨h11_⟩
                  have n12_ : Aside0 (gb309 ≠ gb304) := ⟨h12_⟩
                  have n13_ : Aside0 (gb310 ≠ gb309) := ⟨h13_⟩
                  have n14_ : Aside0 (gb309 ≠ gb310) := ⟨h14_⟩
                  have n15_ : Aside0 (w.heap.size ≤ gb310) := ⟨h15_⟩
                  have n16_ : Aside0 (w.heap.size ≤ gb310) := ⟨h16_⟩
                  have n17_ : Aside0 (gb302 ≠ gb310) := ⟨h17_⟩
                  have n18_ : Aside0 (gb310 ≠ gb302) := ⟨h18_⟩
                  have n19_ : Aside0 (gb303 ≠ gb310) := ⟨h19_⟩
                  have n20_ : Aside0 (gb310 ≠ gb303) := ⟨h20_⟩
                  have n21_ : Aside0 (gb304 ≠ gb310) := ⟨h21_⟩
                  have n22_ : Aside0 (gb310 ≠ gb304) := ⟨h22_⟩
                  have n23_ : Aside0 (Below w.heap.size w w11) := ⟨h23_⟩
                  clear BK302
                  clear BK303
                  clear BK304
                  clear HB
                  clear h0_ h1_ h2_ h3_ h4_ h5_ h6_ h7_ h8_ h9_ h10_ h11_ h12_ h13_ h14_ h15_ h16_ h17_ h18_ h19_ h20_ h21_ h22_ h23_
                  have BK302 := n0_
                  have BK303 := n1_
                  have BK304 := n2_
                  have BK309 := n3_
                  have BK310 := n4_
                  have GW309 := n5_
                  have GE309 := n6_
                  have NB302_309 := n7_
                  have NB309_302 := n8_
                  have NB303_309 := n9_
                  have NB309_303 := n10_
                  have NB304_309 := n11_
                  have NB309_304 := n12_
                  have NB310_309 := n13_
                  have NB309_310 := n14_
                  have GW310 := n15_
                  have GE310 := n16_
                  have NB302_310 := n17_
                  have NB310_302 := n18_
                  have NB303_310 := n19_
                  have NB310_303 := n20_
                  have NB304_310 := n21_
                  have NB310_304 := n22_
                  have HB := n23_
                  clear n0_ n1_ n2_ n3_ n4_ n5_ n6_ n7_ n8_ n9_ n10_ n11_ n12_ n13_ n14_ n15_ n16_ n17_ n18_ n19_ n20_ n21_ n22_ n23_
                  have hHeld : w11.cell? ⟨gb302, 0, none⟩ = some (.int .i64 a0_0) ∧ w11.cell? ⟨gb302, 1, none⟩ = some (.int .i64 a0_1) ∧ w11.cell? ⟨gb303, 0, none⟩ = some (.int .i64 a1_0) ∧ w11.cell? ⟨gb303, 1, none⟩ = some (.int .i64 a1_1) := hS_
                  refine norm_ (a' := ?_) ?_ ?_
                  rotate_left
                  · simp only [putAll, Act.put, List.setIfInBounds_toArray, List.set_cons_zero, List.set_cons_succ]
                    rfl
                  refine one_ (i := 4) (N := some 11) #[true, true, true, true, true, true, true, true, true, false, true, true, false, false] rfl rfl (one_of HT_.out (by kernel_rfl)) (by decide) (fun K hK => ?_)
                  refine goes_ Try.func119 (by kernel_rfl) rfl #[.int .i64 a0_0, .int .i64 a1_1] (by rfl) rfl rfl (by (try simp only [List.map_toArray, List.map_cons, List.map_nil]); first | done | rfl | (simp only [List.length_drop, List.length_take]; rfl)) ?_
                  with_reducible refine (impl_fractionOf.calls k a0_0 a1_1 t305 t306 _ A3.out).mono ?_
                  rintro e w12 ⟨rfl, hb⟩
                  refine ⟨_, rfl, ?_⟩
                  have n0_ := Aside0.mk (blk_below (g := gb302) (o := .cells #[.int .i64 a0_0, .int .i64 a0_1] 101 (0, 0)) (by (with_reducible repeat (first | refine blk_drewN ?_ _ | refine blk_drew ?_ | refine blk_alloc ?_ _)); exact BK302.out) hb)
                  have n1_ := Aside0.mk (blk_below (g := gb303) (o := .cells #[.int .i64 a1_0, .int .i64 a1_1] 101 (0, 0)) (by (with_reducible repeat (first | refine blk_drewN ?_ _ | refine blk_drew ?_ | refine blk_alloc ?_ _)); exact BK303.out) hb)
                  have n2_ := Aside0.mk (blk_below (g := gb304) (o := .cells #[.int .i64 0, .int .i64 0] 101 (0, 0)) (by (with_reducible repeat (first | refine blk_drewN ?_ _ | refine blk_drew ?_ | refine blk_alloc ?_ _)); exact BK304.out) hb)
                  have n3_ := Aside0.mk (blk_below (g := gb309) (o := .cells #[.int .i64 0, .int .i64 0] 101 (0, 0)) (by (with_reducible repeat (first | refine blk_drewN ?_ _ | refine blk_drew ?_ | refine blk_alloc ?_ _)); exact BK309.out) hb)
                  have n4_ := Aside0.mk (blk_below (g := gb310) (o := .cells #[.int .i64 0, .int .i64 0] 101 (0, 0)) (by (with_reducible repeat (first | refine blk_drewN ?_ _ | refine blk_drew ?_ | refine blk_alloc ?_ _)); exact BK310.out) hb)
                  have n5_ := Aside0.mk (below_step (by repeat (first | (with_reducible first | exact HB.out | apply below_alloc | apply pw_below_drewN | apply below_drew1 | refine below_set ?_ GE302.out | refine below_set ?_ GE303.out | refine below_set ?_ GE304.out | refine below_set ?_ GE309.out | refine below_set ?_ GE310.out) | exact HB.out)) hb)
                  clear BK302
                  clear BK303
                  clear BK304
                  clear BK309
                  clear BK310
                  clear HB
                  have BK302 := n0_
                  have BK303 := n1_
                  have BK304 := n2_
                  have BK309 := n3_
                  have BK310 := n4_
                  have HB := n5_
                  clear n0_ n1_ n2_ n3_ n4_ n5_
                  (try clear hb)
                  (try clear hb2)
                  (try clear hk)
                  (try clear hi)
                  refine hK.out _ _ ⟨(blk_cell BK302.out 0).trans rfl, (blk_cell BK302.out 1).trans rfl, (blk_cell BK303.out 0).trans rfl, (blk_cell BK303.out 1).trans rfl⟩ (fun hHeld => ?_)
                  clear hK K
                  refine norm_ (a' := ?_) ?_ ?_
                  rotate_left
                  · show Act.put _ (some 11) _ = _
                    simp only [Act.put, List.setIfInBounds_toArray, List.set_cons_zero, List.set_cons_succ, i64_w, i32_w]
                    rfl
                  exact norm_ (by first | (simp only [putAll, Act.put, List.setIfInBounds_toArray, List.set_cons_zero, List.set_cons_succ]; done) | (simp only [putAll, Act.put, List.setIfInBounds_toArray, List.set_cons_zero, List.set_cons_succ]; rfl)) (hJ4_10_11 (gb309, gb310) _ ⟨hHeld, (by (with_reducible repeat (first | refine blk_drewN ?_ _ | refine blk_drew ?_ | refine blk_alloc ?_ _)); exact BK302.out), (by (with_reducible repeat (first | refine blk_drewN ?_ _ | refine blk_drew ?_ | refine blk_alloc ?_ _)); exact BK303.out), (by (with_reducible repeat (first | refine blk_drewN ?_ _ | refine blk_drew ?_ | refine blk_alloc ?_ _)); exact BK304.out), (by (with_reducible repeat (first | refine blk_drewN ?_ _ | refine blk_drew ?_ | refine blk_alloc ?_ _)); exact BK309.out), (by (with_reducible repeat (first | refine blk_drewN ?_ _ | refine blk_drew ?_ | refine blk_alloc ?_ _)); exact BK310.out), GW309.out, GE309.out, NB302_309.out, NB309_302.out, NB303_309.out, NB309_303.out, NB304_309.out, NB309_304.out, NB310_309.out, NB309_310.out, GW310.out, GE310.out, NB302_310.out, NB310_302.out, NB303_310.out, NB310_303.out, NB304_310.out, NB310_304.out, (by repeat (first | (with_reducible first | exact HB.out | apply below_alloc | apply pw_below_drewN | apply below_drew1 | refine below_set ?_ GE302.out | refine below_set ?_ GE303.out | refine below_set ?_ GE304.out | refine below_set ?_ GE309.out | refine below_set ?_ GE310.out) | exact HB.out))⟩)
              · skip
                rintro gb310 w11 ⟨hS_, h0_, h1_, h2_, h3_, h4_, h5_, h6_, h7_, h8_, h9_, h10_, h11_, h12_⟩
                have n0_ : Aside0 (w11.heap[gb302]? = some (.cells #[.int .i64 a0_0, .int .i64 a0_1] 101 (0, 0))) := ⟨h0_⟩
                have n1_ : Aside0 (w11.heap[gb303]? = some (.cells #[.int .i64 a1_0, .int .i64 a1_1] 101 (0, 0))) := ⟨h1_⟩
                have n2_ : Aside0 (w11.heap[gb304]? = some (.cells #[.int .i64 0, .int .i64 0] 101 (0, 0))) := ⟨h2_⟩
                have n3_ : Aside0 (w11.heap[gb310]? = some (.cells #[.int .i64 0, .int .i64 0] 101 (0, 0))) := ⟨h3_⟩
                have n4_ : Aside0 (w.heap.size ≤ gb310) := ⟨h4_⟩
                have n5_ : Aside0 (w.heap.size ≤ gb310) := ⟨h5_⟩
                have n6_ : Aside0 (gb302 ≠ gb310) := ⟨h6_⟩
                have n7_ : Aside0 (gb310 ≠ gb302) := ⟨h7_⟩
                have n8_ : Aside0 (gb303 ≠ gb310) := ⟨h8_⟩
                have n9_ : Aside0 (gb310 ≠ gb303) := ⟨h9_⟩
                have n10_ : Aside0 (gb304 ≠ gb310) := ⟨h10_⟩
                have n11_ : Aside0 (gb310 ≠ gb304) := ⟨h11_⟩
                have n12_ : Aside0 (Below w.heap.size w w11) := ⟨h12_⟩
                clear BK302
                clear BK303
                clear BK304
                clear HB
                clear h0_ h1_ h2_ h3_ h4_ h5_ h6_ h7_ h8_ h9_ h10_ h11_ h12_
                have BK302 := n0_
                have BK303 := n1_
                have BK304 := n2_
                have BK310 := n3_
                have GW310 := n4_
                have GE310 := n5_
                have NB302_310 := n6_
                have NB310_302 := n7_
                have NB303_310 := n8_
                have NB310_303 := n9_
                have NB304_310 := n10_
                have NB310_304 := n11_
                have HB := n12_
                clear n0_ n1_ n2_ n3_ n4_ n5_ n6_ n7_ n8_ n9_ n10_ n11_ n12_
                have hHeld : w11.cell? ⟨gb302, 0, none⟩ = some (.int .i64 a0_0) ∧ w11.cell? ⟨gb302, 1, none⟩ = some (.int .i64 a0_1) ∧ w11.cell? ⟨gb303, 0, none⟩ = some (.int .i64 a1_0) ∧ w11.cell? ⟨gb303, 1, none⟩ = some (.int .i64 a1_1) := hS_
                refine norm_ (a' := ?_) ?_ ?_
                rotate_left
                · simp only [putAll, Act.put, List.setIfInBounds_toArray, List.set_cons_zero, List.set_cons_succ]
                  rfl
                refine two_ (i := 9) (j := 10) (Ni := some 16) (Nj := some 5) #[true, true, true, true, true, true, true, true, true, true, false, true, false, false] #[true, true, true, true, true, true, true, true, true, false, true, true, false, false] rfl rfl rfl rfl (two_of HT_.out (by kernel_rfl)) (by decide) (by decide) (fun K hK => ?_) (fun K hK => ?_)
                · skip
                  refine goes_ Try.func119 (by kernel_rfl) rfl #[.int .i64 a1_0, .int .i64 a0_1] (by rfl) rfl rfl (by (try simp only [List.map_toArray, List.map_cons, List.map_nil]); first | done | rfl | (simp only [List.length_drop, List.length_take]; rfl)) ?_
                  with_reducible refine (impl_fractionOf.calls k a1_0 a0_1 t307 t308 _ A4.out).mono ?_
                  rintro e w12 ⟨rfl, hb⟩
                  refine ⟨_, rfl, ?_⟩
                  have n0_ := Aside0.mk (blk_below (g := gb302) (o := .cells #[.int .i64 a0_0, .int .i64 a0_1] 101 (0, 0)) (by (with_reducible repeat (first | refine blk_drewN ?_ _ | refine blk_drew ?_ | refine blk_alloc ?_ _)); exact BK302.out) hb)
                  have n1_ := Aside0.mk (blk_below (g := gb303) (o := .cells #[.int .i64 a1_0, .int .i64 a1_1] 101 (0, 0)) (by (with_reducible repeat (first | refine blk_drewN ?_ _ | refine blk_drew ?_ | refine blk_alloc ?_ _)); exact BK303.out) hb)
                  have n2_ := Aside0.mk (blk_below (g := gb304) (o := .cells #[.int .i64 0, .int .i64 0] 101 (0, 0)) (by (with_reducible repeat (first | refine blk_drewN ?_ _ | refine blk_drew ?_ | refine blk_alloc ?_ _)); exact BK304.out) hb)
                  have n3_ := Aside0.mk (blk_below (g := gb310) (o := .cells #[.int .i64 0, .int .i64 0] 101 (0, 0)) (by (with_reducible repeat (first | refine blk_drewN ?_ _ | refine blk_drew ?_ | refine blk_alloc ?_ _)); exact BK310.out) hb)
                  have n4_ := Aside0.mk (below_step (by repeat (first | (with_reducible first | exact HB.out | apply below_alloc | apply pw_below_drewN | apply below_drew1 | refine below_set ?_ GE302.out | refine below_set ?_ GE303.out | refine below_set ?_ GE304.out | refine below_set ?_ GE310.out) | exact HB.out)) hb)
                  clear BK302
                  clear BK303
                  clear BK304
                  clear BK310
                  clear HB
                  have BK302 := n0_
                  have BK303 := n1_
                  have BK304 := n2_
                  have BK310 := n3_
                  have HB := n4_
                  clear n0_ n1_ n2_ n3_ n4_
                  (try clear hb)
                  (try clear hb2)
                  (try clear hk)
                  (try clear hi)
                  refine hK.out _ _ ⟨(blk_cell BK302.out 0).trans rfl, (blk_cell BK302.out 1).trans rfl, (blk_cell BK303.out 0).trans rfl, (blk_cell BK303.out 1).trans rfl⟩ (fun hHeld => ?_)
                  clear hK K
                  refine norm_ (a' := ?_) ?_ ?_
                  rotate_left
                  · show Act.put _ (some 16) _ = _
                    simp only [Act.put, List.setIfInBounds_toArray, List.set_cons_zero, List.set_cons_succ, i64_w, i32_w]
                    rfl
                  exact norm_ (by first | (simp only [putAll, Act.put, List.setIfInBounds_toArray, List.set_cons_zero, List.set_cons_succ]; done) | (simp only [putAll, Act.put, List.setIfInBounds_toArray, List.set_cons_zero, List.set_cons_succ]; rfl)) (hJ4_9_11 (gb310) _ ⟨hHeld, (by (with_reducible repeat (first | refine blk_drewN ?_ _ | refine blk_drew ?_ | refine blk_alloc ?_ _)); exact BK302.out), (by (with_reducible repeat (first | refine blk_drewN ?_ _ | refine blk_drew ?_ | refine blk_alloc ?_ _)); exact BK303.out), (by (with_reducible repeat (first | refine blk_drewN ?_ _ | refine blk_drew ?_ | refine blk_alloc ?_ _)); exact BK304.out), (by (with_reducible repeat (first | refine blk_drewN ?_ _ | refine blk_drew ?_ | refine blk_alloc ?_ _)); exact BK310.out), GW310.out, GE310.out, NB302_310.out, NB310_302.out, NB303_310.out, NB310_303.out, NB304_310.out, NB310_304.out, (by repeat (first | (with_reducible first | exact HB.out | apply below_alloc | apply pw_below_drewN | apply below_drew1 | refine below_set ?_ GE302.out | refine below_set ?_ GE303.out | refine below_set ?_ GE304.out | refine below_set ?_ GE310.out) | exact HB.out))⟩)
                · skip
                  refine box_step ?hg (N := 5) ?hd (cs := #[.int .i64 0, .int .i64 0]) (t := 101) ?hr ?_; (case hd => rfl); (case hg => rfl); (case hr => first | (go_simp; done) | (go_simp; rfl))
                  intro gb309 hg w12 hbox hb
                  have n0_ := Aside0.mk (blk_below (g := gb302) (o := .cells #[.int .i64 a0_0, .int .i64 a0_1] 101 (0, 0)) (by (with_reducible repeat (first | refine blk_drewN ?_ _ | refine blk_drew ?_ | refine blk_alloc ?_ _)); exact BK302.out) hb)
                  have n1_ := Aside0.mk (blk_below (g := gb303) (o := .cells #[.int .i64 a1_0, .int .i64 a1_1] 101 (0, 0)) (by (with_reducible repeat (first | refine blk_drewN ?_ _ | refine blk_drew ?_ | refine blk_alloc ?_ _)); exact BK303.out) hb)
                  have n2_ := Aside0.mk (blk_below (g := gb304) (o := .cells #[.int .i64 0, .int .i64 0] 101 (0, 0)) (by (with_reducible repeat (first | refine blk_drewN ?_ _ | refine blk_drew ?_ | refine blk_alloc ?_ _)); exact BK304.out) hb)
                  have n3_ := Aside0.mk (blk_below (g := gb310) (o := .cells #[.int .i64 0, .int .i64 0] 101 (0, 0)) (by (with_reducible repeat (first | refine blk_drewN ?_ _ | refine blk_drew ?_ | refine blk_alloc ?_ _)); exact BK310.out) hb)
                  have n4_ := Aside0.mk (below_step (by repeat (first | (with_reducible first | exact HB.out | apply below_alloc | apply pw_below_drewN | apply below_drew1 | refine below_set ?_ GE302.out | refine below_set ?_ GE303.out | refine below_set ?_ GE304.out | refine below_set ?_ GE310.out) | exact HB.out)) hb)
                  have n5_ := Aside0.mk (hbox)
                  have n6_ := Aside0.mk ((by rw [hg]; exact (below_size (by repeat (first | (with_reducible first | exact HB.out | apply below_alloc | apply pw_below_drewN | apply below_drew1 | refine below_set ?_ GE302.out | refine below_set ?_ GE303.out | refine below_set ?_ GE304.out | refine below_set ?_ GE310.out) | exact HB.out))) : w.heap.size ≤ gb309))
                  have n7_ := Aside0.mk ((by rw [hg]; exact (below_size (by repeat (first | (with_reducible first | exact HB.out | apply below_alloc | apply pw_below_drewN | apply below_drew1 | refine below_set ?_ GE302.out | refine below_set ?_ GE303.out | refine below_set ?_ GE304.out | refine below_set ?_ GE310.out) | exact HB.out))) : w.heap.size ≤ gb309))
                  have n8_ := Aside0.mk ((by rw [hg]; exact Nat.ne_of_lt (blk_lt (g := gb302) (o := .cells #[.int .i64 a0_0, .int .i64 a0_1] 101 (0, 0)) (by (with_reducible repeat (first | refine blk_drewN ?_ _ | refine blk_drew ?_ | refine blk_alloc ?_ _)); exact BK302.out)) : gb302 ≠ gb309))
                  have n9_ := Aside0.mk ((by rw [hg]; exact Nat.ne_of_gt (blk_lt (g := gb302) (o := .cells #[.int .i64 a0_0, .int .i64 a0_1] 101 (0, 0)) (by (with_reducible repeat (first | refine blk_drewN ?_ _ | refine blk_drew ?_ | refine blk_alloc ?_ _)); exact BK302.out)) : gb309 ≠ gb302))
                  have n10_ := Aside0.mk ((by rw [hg]; exact Nat.ne_of_lt (blk_lt (g := gb303) (o := .cells #[.int .i64 a1_0, .int .i64 a1_1] 101 (0, 0)) (by (with_reducible repeat (first | refine blk_drewN ?_ _ | refine blk_drew ?_ | refine blk_alloc ?_ _)); exact BK303.out)) : gb303 ≠ gb309))
                  have n11_ := Aside0.mk ((by rw [hg]; exact Nat.ne_of_gt (blk_lt (g := gb303) (o := .cells #[.int .i64 a1_0, .int .i64 a1_1] 101 (0, 0)) (by (with_reducible repeat (first | refine blk_drewN ?_ _ | refine blk_drew ?_ | refine blk_alloc ?_ _)); exact BK303.out)) : gb309 ≠ gb303))
                  have n12_ := Aside0.mk ((by rw [hg]; exact Nat.ne_of_lt (blk_lt (g := gb304) (o := .cells #[.int .i64 0, .int .i64 0] 101 (0, 0)) (by (with_reducible repeat (first | refine blk_drewN ?_ _ | refine blk_drew ?_ | refine blk_alloc ?_ _)); exact BK304.out)) : gb304 ≠ gb309))
                  have n13_ := Aside0.mk ((by rw [hg]; exact Nat.ne_of_gt (blk_lt (g := gb304) (o := .cells #[.int .i64 0, .int .i64 0] 101 (0, 0)) (by (with_reducible repeat (first | refine blk_drewN ?_ _ | refine blk_drew ?_ | refine blk_alloc ?_ _)); exact BK304.out)) : gb309 ≠ gb304))
                  have n14_ := Aside0.mk ((by rw [hg]; exact Nat.ne_of_lt (blk_lt (g := gb310) (o := .cells #[.int .i64 0, .int .i64 0] 101 (0, 0)) (by (with_reducible repeat (first | refine blk_drewN ?_ _ | refine blk_drew ?_ | refine blk_alloc ?_ _)); exact BK310.out)) : gb310 ≠ gb309))
                  have n15_ := Aside0.mk ((by rw [hg]; exact Nat.ne_of_gt (blk_lt (g := gb310) (o := .cells #[.int .i64 0, .int .i64 0] 101 (0, 0)) (by (with_reducible repeat (first | refine blk_drewN ?_ _ | refine blk_drew ?_ | refine blk_alloc ?_ _)); exact BK310.out)) : gb309 ≠ gb310))
                  clear BK302
                  clear BK303
                  clear BK304
                  clear BK310
                  clear HB
                  have BK302 := n0_
                  have BK303 := n1_
                  have BK304 := n2_
                  have BK310 := n3_
                  have HB := n4_
                  have BK309 := n5_
                  have GW309 := n6_
                  have GE309 := n7_
                  have NB302_309 := n8_
                  have NB309_302 := n9_
                  have NB303_309 := n10_
                  have NB309_303 := n11_
                  have NB304_309 := n12_
                  have NB309_304 := n13_
                  have NB310_309 := n14_
                  have NB309_310 := n15_
                  clear n0_ n1_ n2_ n3_ n4_ n5_ n6_ n7_ n8_ n9_ n10_ n11_ n12_ n13_ n14_ n15_
                  clear hb hbox hg
                  refine hK.out _ _ ⟨(blk_cell BK302.out 0).trans rfl, (blk_cell BK302.out 1).trans rfl, (blk_cell BK303.out 0).trans rfl, (blk_cell BK303.out 1).trans rfl⟩ (fun hHeld => ?_)
                  clear hK K
                  refine norm_ (a' := ?_) ?_ ?_
                  rotate_left
                  · show Act.put _ (some 5) _ = _
                    simp only [Act.put, List.setIfInBounds_toArray, List.set_cons_zero, List.set_cons_succ, i64_w, i32_w]
                    rfl
                  exact norm_ (by first | (simp only [putAll, Act.put, List.setIfInBounds_toArray, List.set_cons_zero, List.set_cons_succ]; done) | (simp only [putAll, Act.put, List.setIfInBounds_toArray, List.set_cons_zero, List.set_cons_succ]; rfl)) (hJ4_10_11 (gb309, gb310) _ ⟨hHeld, (by (with_reducible repeat (first | refine blk_drewN ?_ _ | refine blk_drew ?_ | refine blk_alloc ?_ _)); exact BK302.out), (by (with_reducible repeat (first | refine blk_drewN ?_ _ | refine blk_drew ?_ | refine blk_alloc ?_ _)); exact BK303.out), (by (with_reducible repeat (first | refine blk_drewN ?_ _ | refine blk_drew ?_ | refine blk_alloc ?_ _)); exact BK304.out), (by (with_reducible repeat (first | refine blk_drewN ?_ _ | refine blk_drew ?_ | refine blk_alloc ?_ _)); exact BK309.out), (by (with_reducible repeat (first | refine blk_drewN ?_ _ | refine blk_drew ?_ | refine blk_alloc ?_ _)); exact BK310.out), GW309.out, GE309.out, NB302_309.out, NB309_302.out, NB303_309.out, NB309_303.out, NB304_309.out, NB309_304.out, NB310_309.out, NB309_310.out, GW310.out, GE310.out, NB302_310.out, NB310_302.out, NB303_310.out, NB310_303.out, NB304_310.out, NB310_304.out, (by repeat (first | (with_reducible first | exact HB.out | apply below_alloc | apply pw_below_drewN | apply below_drew1 | refine below_set ?_ GE302.out | refine below_set ?_ GE303.out | refine below_set ?_ GE304.out | refine below_set ?_ GE310.out | refine below_set ?_ GE309.out) | exact HB.out))⟩)
            · skip
              rintro gb309 w11 ⟨hS_, h0_, h1_, h2_, h3_, h4_, h5_, h6_, h7_, h8_, h9_, h10_, h11_, h12_⟩
              have n0_ : Aside0 (w11.heap[gb302]? = some (.cells #[.int .i64 a0_0, .int .i64 a0_1] 101 (0, 0))) := ⟨h0_⟩
              have n1_ : Aside0 (w11.heap[gb303]? = some (.cells #[.int .i64 a1_0, .int .i64 a1_1] 101 (0, 0))) := ⟨h1_⟩
              have n2_ : Aside0 (w11.heap[gb304]? = some (.cells #[.int .i64 0, .int .i64 0] 101 (0, 0))) := ⟨h2_⟩
              have n3_ : Aside0 (w11.heap[gb309]? = some (.cells #[.int .i64 0, .int .i64 0] 101 (0, 0))) := ⟨h3_⟩
              have n4_ : Aside0 (w.heap.size ≤ gb309) := ⟨h4_⟩
              have n5_ : Aside0 (w.heap.size ≤ gb309) := ⟨h5_⟩
              have n6_ : Aside0 (gb302 ≠ gb309) := ⟨h6_⟩
              have n7_ : Aside0 (gb309 ≠ gb302) := ⟨h7_⟩
              have n8_ : Aside0 (gb303 ≠ gb309) := ⟨h8_⟩
              have n9_ : Aside0 (gb309 ≠ gb303) := ⟨h9_⟩
              have n10_ : Aside0 (gb304 ≠ gb309) := ⟨h10_⟩
              have n11_ : Aside0 (gb309 ≠ gb304) := ⟨h11_⟩
              have n12_ : Aside0 (Below w.heap.size w w11) := ⟨h12_⟩
              clear BK302
              clear BK303
              clear BK304
              clear HB
              clear h0_ h1_ h2_ h3_ h4_ h5_ h6_ h7_ h8_ h9_ h10_ h11_ h12_
              have BK302 := n0_
              have BK303 := n1_
              have BK304 := n2_
              have BK309 := n3_
              have GW309 := n4_
              have GE309 := n5_
              have NB302_309 := n6_
              have NB309_302 := n7_
              have NB303_309 := n8_
              have NB309_303 := n9_
              have NB304_309 := n10_
              have NB309_304 := n11_
              have HB := n12_
              clear n0_ n1_ n2_ n3_ n4_ n5_ n6_ n7_ n8_ n9_ n10_ n11_ n12_
              have hHeld : w11.cell? ⟨gb302, 0, none⟩ = some (.int .i64 a0_0) ∧ w11.cell? ⟨gb302, 1, none⟩ = some (.int .i64 a0_1) ∧ w11.cell? ⟨gb303, 0, none⟩ = some (.int .i64 a1_0) ∧ w11.cell? ⟨gb303, 1, none⟩ = some (.int .i64 a1_1) := hS_
              refine norm_ (a' := ?_) ?_ ?_
              rotate_left
              · simp only [putAll, Act.put, List.setIfInBounds_toArray, List.set_cons_zero, List.set_cons_succ]
                rfl
              refine two_ (i := 9) (j := 11) (Ni := some 16) (Nj := some 6) #[true, true, true, true, true, true, true, true, true, true, true, false, false, false] #[true, true, true, true, true, true, true, true, true, false, true, true, false, false] rfl rfl rfl rfl (two_of HT_.out (by kernel_rfl)) (by decide) (by decide) (fun K hK => ?_) (fun K hK => ?_)
              · skip
                refine goes_ Try.func119 (by kernel_rfl) rfl #[.int .i64 a1_0, .int .i64 a0_1] (by rfl) rfl rfl (by (try simp only [List.map_toArray, List.map_cons, List.map_nil]); first | done | rfl | (simp only [List.length_drop, List.length_take]; rfl)) ?_
                with_reducible refine (impl_fractionOf.calls k a1_0 a0_1 t307 t308 _ A4.out).mono ?_
                rintro e w12 ⟨rfl, hb⟩
                refine ⟨_, rfl, ?_⟩
                have n0_ := Aside0.mk (blk_below (g := gb302) (o := .cells #[.int .i64 a0_0, .int .i64 a0_1] 101 (0, 0)) (by (with_reducible repeat (first | refine blk_drewN ?_ _ | refine blk_drew ?_ | refine blk_alloc ?_ _)); exact BK302.out) hb)
                have n1_ := Aside0.mk (blk_below (g := gb303) (o := .cells #[.int .i64 a1_0, .int .i64 a1_1] 101 (0, 0)) (by (with_reducible repeat (first | refine blk_drewN ?_ _ | refine blk_drew ?_ | refine blk_alloc ?_ _)); exact BK303.out) hb)
                have n2_ := Aside0.mk (blk_below (g := gb304) (o := .cells #[.int .i64 0, .int .i64 0] 101 (0, 0)) (by (with_reducible repeat (first | refine blk_drewN ?_ _ | refine blk_drew ?_ | refine blk_alloc ?_ _)); exact BK304.out) hb)
                have n3_ := Aside0.mk (blk_below (g := gb309) (o := .cells #[.int .i64 0, .int .i64 0] 101 (0, 0)) (by (with_reducible repeat (first | refine blk_drewN ?_ _ | refine blk_drew ?_ | refine blk_alloc ?_ _)); exact BK309.out) hb)
                have n4_ := Aside0.mk (below_step (by repeat (first | (with_reducible first | exact HB.out | apply below_alloc | apply pw_below_drewN | apply below_drew1 | refine below_set ?_ GE302.out | refine below_set ?_ GE303.out | refine below_set ?_ GE304.out | refine below_set ?_ GE309.out) | exact HB.out)) hb)
                clear BK302
                clear BK303
                clear BK304
                clear BK309
                clear HB
                have BK302 := n0_
                have BK303 := n1_
                have BK304 := n2_
                have BK309 := n3_
                have HB := n4_
                clear n0_ n1_ n2_ n3_ n4_
                (try clear hb)
                (try clear hb2)
                (try clear hk)
                (try clear hi)
                refine hK.out _ _ ⟨(blk_cell BK302.out 0).trans rfl, (blk_cell BK302.out 1).trans rfl, (blk_cell BK303.out 0).trans rfl, (blk_cell BK303.out 1).trans rfl⟩ (fun hHeld => ?_)
                clear hK K
                refine norm_ (a' := ?_) ?_ ?_
                rotate_left
                · show Act.put _ (some 16) _ = _
                  simp only [Act.put, List.setIfInBounds_toArray, List.set_cons_zero, List.set_cons_succ, i64_w, i32_w]
                  rfl
                exact norm_ (by first | (simp only [putAll, Act.put, List.setIfInBounds_toArray, List.set_cons_zero, List.set_cons_succ]; done) | (simp only [putAll, Act.put, List.setIfInBounds_toArray, List.set_cons_zero, List.set_cons_succ]; rfl)) (hJ4_9_10 (gb309) _ ⟨hHeld, (by (with_reducible repeat (first | refine blk_drewN ?_ _ | refine blk_drew ?_ | refine blk_alloc ?_ _)); exact BK302.out), (by (with_reducible repeat (first | refine blk_drewN ?_ _ | refine blk_drew ?_ | refine blk_alloc ?_ _)); exact BK303.out), (by (with_reducible repeat (first | refine blk_drewN ?_ _ | refine blk_drew ?_ | refine blk_alloc ?_ _)); exact BK304.out), (by (with_reducible repeat (first | refine blk_drewN ?_ _ | refine blk_drew ?_ | refine blk_alloc ?_ _)); exact BK309.out), GW309.out, GE309.out, NB302_309.out, NB309_302.out, NB303_309.out, NB309_303.out, NB304_309.out, NB309_304.out, (by repeat (first | (with_reducible first | exact HB.out | apply below_alloc | apply pw_below_drewN | apply below_drew1 | refine below_set ?_ GE302.out | refine below_set ?_ GE303.out | refine below_set ?_ GE304.out | refine below_set ?_ GE309.out) | exact HB.out))⟩)
              · skip
                refine box_step ?hg (N := 6) ?hd (cs := #[.int .i64 0, .int .i64 0]) (t := 101) ?hr ?_; (case hd => rfl); (case hg => rfl); (case hr => first | (go_simp; done) | (go_simp; rfl))
                intro gb310 hg w12 hbox hb
                have n0_ := Aside0.mk (blk_below (g := gb302) (o := .cells #[.int .i64 a0_0, .int .i64 a0_1] 101 (0, 0)) (by (with_reducible repeat (first | refine blk_drewN ?_ _ | refine blk_drew ?_ | refine blk_alloc ?_ _)); exact BK302.out) hb)
                have n1_ := Aside0.mk (blk_below (g := gb303) (o := .cells #[.int .i64 a1_0, .int .i64 a1_1] 101 (0, 0)) (by (with_reducible repeat (first | refine blk_drewN ?_ _ | refine blk_drew ?_ | refine blk_alloc ?_ _)); exact BK303.out) hb)
                have n2_ := Aside0.mk (blk_below (g := gb304) (o := .cells #[.int .i64 0, .int .i64 0] 101 (0, 0)) (by (with_reducible repeat (first | refine blk_drewN ?_ _ | refine blk_drew ?_ | refine blk_alloc ?_ _)); exact BK304.out) hb)
                have n3_ := Aside0.mk (blk_below (g := gb309) (o := .cells #[.int .i64 0, .int .i64 0] 101 (0, 0)) (by (with_reducible repeat (first | refine blk_drewN ?_ _ | refine blk_drew ?_ | refine blk_alloc ?_ _)); exact BK309.out) hb)
                have n4_ := Aside0.mk (below_step (by repeat (first | (with_reducible first | exact HB.out | apply below_alloc | apply pw_below_drewN | apply below_drew1 | refine below_set ?_ GE302.out | refine below_set ?_ GE303.out | refine below_set ?_ GE304.out | refine below_set ?_ GE309.out) | exact HB.out)) hb)
                have n5_ := Aside0.mk (hbox)
                have n6_ := Aside0.mk ((by rw [hg]; exact (below_size (by repeat (first | (with_reducible first | exact HB.out | apply below_alloc | apply pw_below_drewN | apply below_drew1 | refine below_set ?_ GE302.out | refine below_set ?_ GE303.out | refine below_set ?_ GE304.out | refine below_set ?_ GE309.out) | exact HB.out))) : w.heap.size ≤ gb310))
                have n7_ := Aside0.mk ((by rw [hg]; exact (below_size (by repeat (first | (with_reducible first | exact HB.out | apply below_alloc | apply pw_below_drewN | apply below_drew1 | refine below_set ?_ GE302.out | refine below_set ?_ GE303.out | refine below_set ?_ GE304.out | refine below_set ?_ GE309.out) | exact HB.out))) : w.heap.size ≤ gb310))
                have n8_ := Aside0.mk ((by rw [hg]; exact Nat.ne_of_lt (blk_lt (g := gb302) (o := .cells #[.int .i64 a0_0, .int .i64 a0_1] 101 (0, 0)) (by (with_reducible repeat (first | refine blk_drewN ?_ _ | refine blk_drew ?_ | refine blk_alloc ?_ _)); exact BK302.out)) : gb302 ≠ gb310))
                have n9_ := Aside0.mk ((by rw [hg]; exact Nat.ne_of_gt (blk_lt (g := gb302) (o := .cells #[.int .i64 a0_0, .int .i64 a0_1] 101 (0, 0)) (by (with_reducible repeat (first | refine blk_drewN ?_ _ | refine blk_drew ?_ | refine blk_alloc ?_ _)); exact BK302.out)) : gb310 ≠ gb302))
                have n10_ := Aside0.mk ((by rw [hg]; exact Nat.ne_of_lt (blk_lt (g := gb303) (o := .cells #[.int .i64 a1_0, .int .i64 a1_1] 101 (0, 0)) (by (with_reducible repeat (first | refine blk_drewN ?_ _ | refine blk_drew ?_ | refine blk_alloc ?_ _)); exact BK303.out)) : gb303 ≠ gb310))
                have n11_ := Aside0.mk ((by rw [hg]; exact Nat.ne_of_gt (blk_lt (g := gb303) (o := .cells #[.int .i64 a1_0, .int .i64 a1_1] 101 (0, 0)) (by (with_reducible repeat (first | refine blk_drewN ?_ _ | refine blk_drew ?_ | refine blk_alloc ?_ _)); exact BK303.out)) : gb310 ≠ gb303))
                have n12_ := Aside0.mk ((by rw [hg]; exact Nat.ne_of_lt (blk_lt (g := gb304) (o := .cells #[.int .i64 0, .int .i64 0] 101 (0, 0)) (by (with_reducible repeat (first | refine blk_drewN ?_ _ | refine blk_drew ?_ | refine blk_alloc ?_ _)); exact BK304.out)) : gb304 ≠ gb310))
                have n13_ := Aside0.mk ((by rw [hg]; exact Nat.ne_of_gt (blk_lt (g := gb304) (o := .cells #[.int .i64 0, .int .i64 0] 101 (0, 0)) (by (with_reducible repeat (first | refine blk_drewN ?_ _ | refine blk_drew ?_ | refine blk_alloc ?_ _)); exact BK304.out)) : gb310 ≠ gb304))
                have n14_ := Aside0.mk ((by rw [hg]; exact Nat.ne_of_lt (blk_lt (g := gb309) (o := .cells #[.int .i64 0, .int .i64 0] 101 (0, 0)) (by (with_reducible repeat (first | refine blk_drewN ?_ _ | refine blk_drew ?_ | refine blk_alloc ?_ _)); exact BK309.out)) : gb309 ≠ gb310))
                have n15_ := Aside0.mk ((by rw [hg]; exact Nat.ne_of_gt (blk_lt (g := gb309) (o := .cells #[.int .i64 0, .int .i64 0] 101 (0, 0)) (by (with_reducible repeat (first | refine blk_drewN ?_ _ | refine blk_drew ?_ | refine blk_alloc ?_ _)); exact BK309.out)) : gb310 ≠ gb309))
                clear BK302
                clear BK303
                clear BK304
                clear BK309
                clear HB
                have BK302 := n0_
                have BK303 := n1_
                have BK304 := n2_
                have BK309 := n3_
                have HB := n4_
                have BK310 := n5_
                have GW310 := n6_
                have GE310 := n7_
                have NB302_310 := n8_
                have NB310_302 := n9_
                have NB303_310 := n10_
                have NB310_303 := n11_
                have NB304_310 := n12_
                have NB310_304 := n13_
                have NB309_310 := n14_
                have NB310_309 := n15_
                clear n0_ n1_ n2_ n3_ n4_ n5_ n6_ n7_ n8_ n9_ n10_ n11_ n12_ n13_ n14_ n15_
                clear hb hbox hg
                refine hK.out _ _ ⟨(blk_cell BK302.out 0).trans rfl, (blk_cell BK302.out 1).trans rfl, (blk_cell BK303.out 0).trans rfl, (blk_cell BK303.out 1).trans rfl⟩ (fun hHeld => ?_)
                clear hK K
                refine norm_ (a' := ?_) ?_ ?_
                rotate_left
                · show Act.put _ (some 6) _ = _
                  simp only [Act.put, List.setIfInBounds_toArray, List.set_cons_zero, List.set_cons_succ, i64_w, i32_w]
                  rfl
                exact norm_ (by first | (simp only [putAll, Act.put, List.setIfInBounds_toArray, List.set_cons_zero, List.set_cons_succ]; done) | (simp only [putAll, Act.put, List.setIfInBounds_toArray, List.set_cons_zero, List.set_cons_succ]; rfl)) (hJ4_10_11 (gb309, gb310) _ ⟨hHeld, (by (with_reducible repeat (first | refine blk_drewN ?_ _ | refine blk_drew ?_ | refine blk_alloc ?_ _)); exact BK302.out), (by (with_reducible repeat (first | refine blk_drewN ?_ _ | refine blk_drew ?_ | refine blk_alloc ?_ _)); exact BK303.out), (by (with_reducible repeat (first | refine blk_drewN ?_ _ | refine blk_drew ?_ | refine blk_alloc ?_ _)); exact BK304.out), (by (with_reducible repeat (first | refine blk_drewN ?_ _ | refine blk_drew ?_ | refine blk_alloc ?_ _)); exact BK309.out), (by (with_reducible repeat (first | refine blk_drewN ?_ _ | refine blk_drew ?_ | refine blk_alloc ?_ _)); exact BK310.out), GW309.out, GE309.out, NB302_309.out, NB309_302.out, NB303_309.out, NB309_303.out, NB304_309.out, NB309_304.out, NB310_309.out, NB309_310.out, GW310.out, GE310.out, NB302_310.out, NB310_302.out, NB303_310.out, NB310_303.out, NB304_310.out, NB310_304.out, (by repeat (first | (with_reducible first | exact HB.out | apply below_alloc | apply pw_below_drewN | apply below_drew1 | refine below_set ?_ GE302.out | refine below_set ?_ GE303.out | refine below_set ?_ GE304.out | refine below_set ?_ GE309.out | refine below_set ?_ GE310.out) | exact HB.out))⟩)
          · skip
            rintro _ w11 ⟨hS_, h0_, h1_, h2_, h3_⟩
            have n0_ : Aside0 (w11.heap[gb302]? = some (.cells #[.int .i64 a0_0, .int .i64 a0_1] 101 (0, 0))) := ⟨h0_⟩
            have n1_ : Aside0 (w11.heap[gb303]? = some (.cells #[.int .i64 a1_0, .int .i64 a1_1] 101 (0, 0))) := ⟨h1_⟩
            have n2_ : Aside0 (w11.heap[gb304]? = some (.cells #[.int .i64 0, .int .i64 0] 101 (0, 0))) := ⟨h2_⟩
            have n3_ : Aside0 (Below w.heap.size w w11) := ⟨h3_⟩
            clear BK302
            clear BK303
            clear BK304
            clear HB
            clear h0_ h1_ h2_ h3_
            have BK302 := n0_
            have BK303 := n1_
            have BK304 := n2_
            have HB := n3_
            clear n0_ n1_ n2_ n3_
            have hHeld : w11.cell? ⟨gb302, 0, none⟩ = some (.int .i64 a0_0) ∧ w11.cell? ⟨gb302, 1, none⟩ = some (.int .i64 a0_1) ∧ w11.cell? ⟨gb303, 0, none⟩ = some (.int .i64 a1_0) ∧ w11.cell? ⟨gb303, 1, none⟩ = some (.int .i64 a1_1) := hS_
            refine norm_ (a' := ?_) ?_ ?_
            rotate_left
            · simp only [putAll, Act.put, List.setIfInBounds_toArray, List.set_cons_zero, List.set_cons_succ]
              rfl
            refine two_ (i := 10) (j := 11) (Ni := some 5) (Nj := some 6) #[true, true, true, true, true, true, true, true, true, true, true, false, false, false] #[true, true, true, true, true, true, true, true, true, true, false, true, false, false] rfl rfl rfl rfl (two_of HT_.out (by kernel_rfl)) (by decide) (by decide) (fun K hK => ?_) (fun K hK => ?_)
            · skip
              refine box_step ?hg (N := 5) ?hd (cs := #[.int .i64 0, .int .i64 0]) (t := 101) ?hr ?_; (case hd => rfl); (case hg => rfl); (case hr => first | (go_simp; done) | (go_simp; rfl))
              intro gb309 hg w12 hbox hb
              have n0_ := Aside0.mk (blk_below (g := gb302) (o := .cells #[.int .i64 a0_0, .int .i64 a0_1] 101 (0, 0)) (by (with_reducible repeat (first | refine blk_drewN ?_ _ | refine blk_drew ?_ | refine blk_alloc ?_ _)); exact BK302.out) hb)
              have n1_ := Aside0.mk (blk_below (g := gb303) (o := .cells #[.int .i64 a1_0, .int .i64 a1_1] 101 (0, 0)) (by (with_reducible repeat (first | refine blk_drewN ?_ _ | refine blk_drew ?_ | refine blk_alloc ?_ _)); exact BK303.out) hb)
              have n2_ := Aside0.mk (blk_below (g := gb304) (o := .cells #[.int .i64 0, .int .i64 0] 101 (0, 0)) (by (with_reducible repeat (first | refine blk_drewN ?_ _ | refine blk_drew ?_ | refine blk_alloc ?_ _)); exact BK304.out) hb)
              have n3_ := Aside0.mk (below_step (by repeat (first | (with_reducible first | exact HB.out | apply below_alloc | apply pw_below_drewN | apply below_drew1 | refine below_set ?_ GE302.out | refine below_set ?_ GE303.out | refine below_set ?_ GE304.out) | exact HB.out)) hb)
              have n4_ := Aside0.mk (hbox)
              have n5_ := Aside0.mk ((by rw [hg]; exact (below_size (by repeat (first | (with_reducible first | exact HB.out | apply below_alloc | apply pw_below_drewN | apply below_drew1 | refine below_set ?_ GE302.out | refine below_set ?_ GE303.out | refine below_set ?_ GE304.out) | exact HB.out))) : w.heap.size ≤ gb309))
              have n6_ := Aside0.mk ((by rw [hg]; exact (below_size (by repeat (first | (with_reducible first | exact HB.out | apply below_alloc | apply pw_below_drewN | apply below_drew1 | refine below_set ?_ GE302.out | refine below_set ?_ GE303.out | refine below_set ?_ GE304.out) | exact HB.out))) : w.heap.size ≤ gb309))
              have n7_ := Aside0.mk ((by rw [hg]; exact Nat.ne_of_lt (blk_lt (g := gb302) (o := .cells #[.int .i64 a0_0, .int .i64 a0_1] 101 (0, 0)) (by (with_reducible repeat (first | refine blk_drewN ?_ _ | refine blk_drew ?_ | refine blk_alloc ?_ _)); exact BK302.out)) : gb302 ≠ gb309))
              have n8_ := Aside0.mk ((by rw [hg]; exact Nat.ne_of_gt (blk_lt (g := gb302) (o := .cells #[.int .i64 a0_0, .int .i64 a0_1] 101 (0, 0)) (by (with_reducible repeat (first | refine blk_drewN ?_ _ | refine blk_drew ?_ | refine blk_alloc ?_ _)); exact BK302.out)) : gb309 ≠ gb302))
              have n9_ := Aside0.mk ((by rw [hg]; exact Nat.ne_of_lt (blk_lt (g := gb303) (o := .cells #[.int .i64 a1_0, .int .i64 a1_1] 101 (0, 0)) (by (with_reducible repeat (first | refine blk_drewN ?_ _ | refine blk_drew ?_ | refine blk_alloc ?_ _)); exact BK303.out)) : gb303 ≠ gb309))
              have n10_ := Aside0.mk ((by rw [hg]; exact Nat.ne_of_gt (blk_lt (g := gb303) (o := .cells #[.int .i64 a1_0, .int .i64 a1_1] 101 (0, 0)) (by (with_reducible repeat (first | refine blk_drewN ?_ _ | refine blk_drew ?_ | refine blk_alloc ?_ _)); exact BK303.out)) : gb309 ≠ gb303))
              have n11_ := Aside0.mk ((by rw [hg]; exact Nat.ne_of_lt (blk_lt (g := gb304) (o := .cells #[.int .i64 0, .int .i64 0] 101 (0, 0)) (by (with_reducible repeat (first | refine blk_drewN ?_ _ | refine blk_drew ?_ | refine blk_alloc ?_ _)); exact BK304.out)) : gb304 ≠ gb309))
              have n12_ := Aside0.mk ((by rw [hg]; exact Nat.ne_of_gt (blk_lt (g := gb304) (o := .cells #[.int .i64 0, .int .i64 0] 101 (0, 0)) (by (with_reducible repeat (first | refine blk_drewN ?_ _ | refine blk_drew ?_ | refine blk_alloc ?_ _)); exact BK304.out)) : gb309 ≠ gb304))
              clear BK302
              clear BK303
              clear BK304
              clear HB
              have BK302 := n0_
              have BK303 := n1_
              have BK304 := n2_
              have HB := n3_
              have BK309 := n4_
              have GW309 := n5_
              have GE309 := n6_
              have NB302_309 := n7_
              have NB309_302 := n8_
              have NB303_309 := n9_
              have NB309_303 := n10_
              have NB304_309 := n11_
              have NB309_304 := n12_
              clear n0_ n1_ n2_ n3_ n4_ n5_ n6_ n7_ n8_ n9_ n10_ n11_ n12_
              clear hb hbox hg
              refine hK.out _ _ ⟨(blk_cell BK302.out 0).trans rfl, (blk_cell BK302.out 1).trans rfl, (blk_cell BK303.out 0).trans rfl, (blk_cell BK303.out 1).trans rfl⟩ (fun hHeld => ?_)
              clear hK K
              refine norm_ (a' := ?_) ?_ ?_
              rotate_left
              · show Act.put _ (some 5) _ = _
                simp only [Act.put, List.setIfInBounds_toArray, List.set_cons_zero, List.set_cons_succ, i64_w, i32_w]
                rfl
              exact norm_ (by first | (simp only [putAll, Act.put, List.setIfInBounds_toArray, List.set_cons_zero, List.set_cons_succ]; done) | (simp only [putAll, Act.put, List.setIfInBounds_toArray, List.set_cons_zero, List.set_cons_succ]; rfl)) (hJ4_9_10 (gb309) _ ⟨hHeld, (by (with_reducible repeat (first | refine blk_drewN ?_ _ | refine blk_drew ?_ | refine blk_alloc ?_ _)); exact BK302.out), (by (with_reducible repeat (first | refine blk_drewN ?_ _ | refine blk_drew ?_ | refine blk_alloc ?_ _)); exact BK303.out), (by (with_reducible repeat (first | refine blk_drewN ?_ _ | refine blk_drew ?_ | refine blk_alloc ?_ _)); exact BK304.out), (by (with_reducible repeat (first | refine blk_drewN ?_ _ | refine blk_drew ?_ | refine blk_alloc ?_ _)); exact BK309.out), GW309.out, GE309.out, NB302_309.out, NB309_302.out, NB303_309.out, NB309_303.out, NB304_309.out, NB309_304.out, (by repeat (first | (with_reducible first | exact HB.out | apply below_alloc | apply pw_below_drewN | apply below_drew1 | refine below_set ?_ GE302.out | refine below_set ?_ GE303.out | refine below_set ?_ GE304.out | refine below_set ?_ GE309.out) | exact HB.out))⟩)
            · skip
              refine box_step ?hg (N := 6) ?hd (cs := #[.int .i64 0, .int .i64 0]) (t := 101) ?hr ?_; (case hd => rfl); (case hg => rfl); (case hr => first | (go_simp; done) | (go_simp; rfl))
              intro gb310 hg w12 hbox hb
              have n0_ := Aside0.mk (blk_below (g := gb302) (o := .cells #[.int .i64 a0_0, .int .i64 a0_1] 101 (0, 0)) (by (with_reducible repeat (first | refine blk_drewN ?_ _ | refine blk_drew ?_ | refine blk_alloc ?_ _)); exact BK302.out) hb)
              have n1_ := Aside0.mk (blk_below (g := gb303) (o := .cells #[.int .i64 a1_0, .int .i64 a1_1] 101 (0, 0)) (by (with_reducible repeat (first | refine blk_drewN ?_ _ | refine blk_drew ?_ | refine blk_alloc ?_ _)); exact BK303.out) hb)
              have n2_ := Aside0.mk (blk_below (g := gb304) (o := .cells #[.int .i64 0, .int .i64 0] 101 (0, 0)) (by (with_reducible repeat (first | refine blk_drewN ?_ _ | refine blk_drew ?_ | refine blk_alloc ?_ _)); exact BK304.out) hb)
              have n3_ := Aside0.mk (below_step (by repeat (first | (with_reducible first | exact HB.out | apply below_alloc | apply pw_below_drewN | apply below_drew1 | refine below_set ?_ GE302.out | refine below_set ?_ GE303.out | refine below_set ?_ GE304.out) | exact HB.out)) hb)
              have n4_ := Aside0.mk (hbox)
              have n5_ := Aside0.mk ((by rw [hg]; exact (below_size (by repeat (first | (with_reducible first | exact HB.out | apply below_alloc | apply pw_below_drewN | apply below_drew1 | refine below_set ?_ GE302.out | refine below_set ?_ GE303.out | refine below_set ?_ GE304.out) | exact HB.out))) : w.heap.size ≤ gb310))
              have n6_ := Aside0.mk ((by rw [hg]; exact (below_size (by repeat (first | (with_reducible first | exact HB.out | apply below_alloc | apply pw_below_drewN | apply below_drew1 | refine below_set ?_ GE302.out | refine below_set ?_ GE303.out | refine below_set ?_ GE304.out) | exact HB.out))) : w.heap.size ≤ gb310))
              have n7_ := Aside0.mk ((by rw [hg]; exact Nat.ne_of_lt (blk_lt (g := gb302) (o := .cells #[.int .i64 a0_0, .int .i64 a0_1] 101 (0, 0)) (by (with_reducible repeat (first | refine blk_drewN ?_ _ | refine blk_drew ?_ | refine blk_alloc ?_ _)); exact BK302.out)) : gb302 ≠ gb310))
              have n8_ := Aside0.mk ((by rw [hg]; exact Nat.ne_of_gt (blk_lt (g := gb302) (o := .cells #[.int .i64 a0_0, .int .i64 a0_1] 101 (0, 0)) (by (with_reducible repeat (first | refine blk_drewN ?_ _ | refine blk_drew ?_ | refine blk_alloc ?_ _)); exact BK302.out)) : gb310 ≠ gb302))
              have n9_ := Aside0.mk ((by rw [hg]; exact Nat.ne_of_lt (blk_lt (g := gb303) (o := .cells #[.int .i64 a1_0, .int .i64 a1_1] 101 (0, 0)) (by (with_reducible repeat (first | refine blk_drewN ?_ _ | refine blk_drew ?_ | refine blk_alloc ?_ _)); exact BK303.out)) : gb303 ≠ gb310))
              have n10_ := Aside0.mk ((by rw [hg]; exact Nat.ne_of_gt (blk_lt (g := gb303) (o := .cells #[.int .i64 a1_0, .int .i64 a1_1] 101 (0, 0)) (by (with_reducible repeat (first | refine blk_drewN ?_ _ | refine blk_drew ?_ | refine blk_alloc ?_ _)); exact BK303.out)) : gb310 ≠ gb303))
              have n11_ := Aside0.mk ((by rw [hg]; exact Nat.ne_of_lt (blk_lt (g := gb304) (o := .cells #[.int .i64 0, .int .i64 0] 101 (0, 0)) (by (with_reducible repeat (first | refine blk_drewN ?_ _ | refine blk_drew ?_ | refine blk_alloc ?_ _)); exact BK304.out)) : gb304 ≠ gb310))
              have n12_ := Aside0.mk ((by rw [hg]; exact Nat.ne_of_gt (blk_lt (g := gb304) (o := .cells #[.int .i64 0, .int .i64 0] 101 (0, 0)) (by (with_reducible repeat (first | refine blk_drewN ?_ _ | refine blk_drew ?_ | refine blk_alloc ?_ _)); exact BK304.out)) : gb310 ≠ gb304))
              clear BK302
              clear BK303
              clear BK304
              clear HB
              have BK302 := n0_
              have BK303 := n1_
              have BK304 := n2_
              have HB := n3_
              have BK310 := n4_
              have GW310 := n5_
              have GE310 := n6_
              have NB302_310 := n7_
              have NB310_302 := n8_
              have NB303_310 := n9_
              have NB310_303 := n10_
              have NB304_310 := n11_
              have NB310_304 := n12_
              clear n0_ n1_ n2_ n3_ n4_ n5_ n6_ n7_ n8_ n9_ n10_ n11_ n12_
              clear hb hbox hg
              refine hK.out _ _ ⟨(blk_cell BK302.out 0).trans rfl, (blk_cell BK302.out 1).trans rfl, (blk_cell BK303.out 0).trans rfl, (blk_cell BK303.out 1).trans rfl⟩ (fun hHeld => ?_)
              clear hK K
              refine norm_ (a' := ?_) ?_ ?_
              rotate_left
              · show Act.put _ (some 6) _ = _
                simp only [Act.put, List.setIfInBounds_toArray, List.set_cons_zero, List.set_cons_succ, i64_w, i32_w]
                rfl
              exact norm_ (by first | (simp only [putAll, Act.put, List.setIfInBounds_toArray, List.set_cons_zero, List.set_cons_succ]; done) | (simp only [putAll, Act.put, List.setIfInBounds_toArray, List.set_cons_zero, List.set_cons_succ]; rfl)) (hJ4_9_11 (gb310) _ ⟨hHeld, (by (with_reducible repeat (first | refine blk_drewN ?_ _ | refine blk_drew ?_ | refine blk_alloc ?_ _)); exact BK302.out), (by (with_reducible repeat (first | refine blk_drewN ?_ _ | refine blk_drew ?_ | refine blk_alloc ?_ _)); exact BK303.out), (by (with_reducible repeat (first | refine blk_drewN ?_ _ | refine blk_drew ?_ | refine blk_alloc ?_ _)); exact BK304.out), (by (with_reducible repeat (first | refine blk_drewN ?_ _ | refine blk_drew ?_ | refine blk_alloc ?_ _)); exact BK310.out), GW310.out, GE310.out, NB302_310.out, NB310_302.out, NB303_310.out, NB310_303.out, NB304_310.out, NB310_304.out, (by repeat (first | (with_reducible first | exact HB.out | apply below_alloc | apply pw_below_drewN | apply below_drew1 | refine below_set ?_ GE302.out | refine below_set ?_ GE303.out | refine below_set ?_ GE304.out | refine below_set ?_ GE310.out) | exact HB.out))⟩)
        · skip
          rintro ⟨gb309, gb310⟩ w12 ⟨hS_, h0_, h1_, h2_, h3_, h4_, h5_, h6_, h7_, h8_, h9_, h10_, h11_, h12_, h13_, h14_, h15_, h16_, h17_, h18_, h19_, h20_, h21_, h22_, h23_⟩
          have n0_ : Aside0 (w12.heap[gb302]? = some (.cells #[.int .i64 a0_0, .int .i64 a0_1] 101 (0, 0))) := ⟨h0_⟩
          have n1_ : Aside0 (w12.heap[gb303]? = some (.cells #[.int .i64 a1_0, .int .i64 a1_1] 101 (0, 0))) := ⟨h1_⟩
          have n2_ : Aside0 (w12.heap[gb304]? = some (.cells #[.int .i64 0, .int .i64 0] 101 (0, 0))) := ⟨h2_⟩
          have n3_ : Aside0 (w12.heap[gb309]? = some (.cells #[.int .i64 0, .int .i64 0] 101 (0, 0))) := ⟨h3_⟩
          have n4_ : Aside0 (w12.heap[gb310]? = some (.cells #[.int .i64 0, .int .i64 0] 101 (0, 0))) := ⟨h4_⟩
          have n5_ : Aside0 (w.heap.size ≤ gb309) := ⟨h5_⟩
          have n6_ : Aside0 (w.heap.size ≤ gb309) := ⟨h6_⟩
          have n7_ : Aside0 (gb302 ≠ gb309) := ⟨h7_⟩
          have n8_ : Aside0 (gb309 ≠ gb302) := ⟨h8_⟩
          have n9_ : Aside0 (gb303 ≠ gb309) := ⟨h9_⟩
          have n10_ : Aside0 (gb309 ≠ gb303) := ⟨h10_⟩
          have n11_ : Aside0 (gb304 ≠ gb309) := ⟨h11_⟩
          have n12_ : Aside0 (gb309 ≠ gb304) := ⟨h12_⟩
          have n13_ : Aside0 (gb310 ≠ gb309) := ⟨h13_⟩
          have n14_ : Aside0 (gb309 ≠ gb310) := ⟨h14_⟩
          have n15_ : Aside0 (w.heap.size ≤ gb310) := ⟨h15_⟩
          have n16_ : Aside0 (w.heap.size ≤ gb310) := ⟨h16_⟩
          have n17_ : Aside0 (gb302 ≠ gb310) := ⟨h17_⟩
          have n18_ : Aside0 (gb310 ≠ gb302) := ⟨h18_⟩
          have n19_ : Aside0 (gb303 ≠ gb310) := ⟨h19_⟩
          have n20_ : Aside0 (gb310 ≠ gb303) := ⟨h20_⟩
          have n21_ : Aside0 (gb304 ≠ gb310) := ⟨h21_⟩
          have n22_ : Aside0 (gb310 ≠ gb304) := ⟨h22_⟩
          have n23_ : Aside0 (Below w.heap.size w w12) := ⟨h23_⟩
          clear BK302
          clear BK303
          clear BK304
          clear HB
          clear h0_ h1_ h2_ h3_ h4_ h5_ h6_ h7_ h8_ h9_ h10_ h11_ h12_ h13_ h14_ h15_ h16_ h17_ h18_ h19_ h20_ h21_ h22_ h23_
          have BK302 := n0_
          have BK303 := n1_
          have BK304 := n2_
          have BK309 := n3_
          have BK310 := n4_
          have GW309 := n5_
          have GE309 := n6_
          have NB302_309 := n7_
          have NB309_302 := n8_
          have NB303_309 := n9_
          have NB309_303 := n10_
          have NB304_309 := n11_
          have NB309_304 := n12_
          have NB310_309 := n13_
          have NB309_310 := n14_
          have GW310 := n15_
          have GE310 := n16_
          have NB302_310 := n17_
          have NB310_302 := n18_
          have NB303_310 := n19_
          have NB310_303 := n20_
          have NB304_310 := n21_
          have NB310_304 := n22_
          have HB := n23_
          clear n0_ n1_ n2_ n3_ n4_ n5_ n6_ n7_ n8_ n9_ n10_ n11_ n12_ n13_ n14_ n15_ n16_ n17_ n18_ n19_ n20_ n21_ n22_ n23_
          have hHeld : w12.cell? ⟨gb302, 0, none⟩ = some (.int .i64 a0_0) ∧ w12.cell? ⟨gb302, 1, none⟩ = some (.int .i64 a0_1) ∧ w12.cell? ⟨gb303, 0, none⟩ = some (.int .i64 a1_0) ∧ w12.cell? ⟨gb303, 1, none⟩ = some (.int .i64 a1_1) := hS_
          refine norm_ (a' := ?_) ?_ ?_
          rotate_left
          · simp only [putAll, Act.put, List.setIfInBounds_toArray, List.set_cons_zero, List.set_cons_succ]
            rfl
          refine one_ (i := 9) (N := some 16) #[true, true, true, true, true, true, true, true, true, true, true, true, false, false] rfl rfl (one_of HT_.out (by kernel_rfl)) (by decide) (fun K hK => ?_)
          refine goes_ Try.func119 (by kernel_rfl) rfl #[.int .i64 a1_0, .int .i64 a0_1] (by rfl) rfl rfl (by (try simp only [List.map_toArray, List.map_cons, List.map_nil]); first | done | rfl | (simp only [List.length_drop, List.length_take]; rfl)) ?_
          with_reducible refine (impl_fractionOf.calls k a1_0 a0_1 t307 t308 _ A4.out).mono ?_
          rintro e w13 ⟨rfl, hb⟩
          refine ⟨_, rfl, ?_⟩
          have n0_ := Aside0.mk (blk_below (g := gb302) (o := .cells #[.int .i64 a0_0, .int .i64 a0_1] 101 (0, 0)) (by (with_reducible repeat (first | refine blk_drewN ?_ _ | refine blk_drew ?_ | refine blk_alloc ?_ _)); exact BK302.out) hb)
          have n1_ := Aside0.mk (blk_below (g := gb303) (o := .cells #[.int .i64 a1_0, .int .i64 a1_1] 101 (0, 0)) (by (with_reducible repeat (first | refine blk_drewN ?_ _ | refine blk_drew ?_ | refine blk_alloc ?_ _)); exact BK303.out) hb)
          have n2_ := Aside0.mk (blk_below (g := gb304) (o := .cells #[.int .i64 0, .int .i64 0] 101 (0, 0)) (by (with_reducible repeat (first | refine blk_drewN ?_ _ | refine blk_drew ?_ | refine blk_alloc ?_ _)); exact BK304.out) hb)
          have n3_ := Aside0.mk (blk_below (g := gb309) (o := .cells #[.int .i64 0, .int .i64 0] 101 (0, 0)) (by (with_reducible repeat (first | refine blk_drewN ?_ _ | refine blk_drew ?_ | refine blk_alloc ?_ _)); exact BK309.out) hb)
          have n4_ := Aside0.mk (blk_below (g := gb310) (o := .cells #[.int .i64 0, .int .i64 0] 101 (0, 0)) (by (with_reducible repeat (first | refine blk_drewN ?_ _ | refine blk_drew ?_ | refine blk_alloc ?_ _)); exact BK310.out) hb)
          have n5_ := Aside0.mk (below_step (by repeat (first | (with_reducible first | exact HB.out | apply below_alloc | apply pw_below_drewN | apply below_drew1 | refine below_set ?_ GE302.out | refine below_set ?_ GE303.out | refine below_set ?_ GE304.out | refine below_set ?_ GE309.out | refine below_set ?_ GE310.out) | exact HB.out)) hb)
          clear BK302
          clear BK303
          clear BK304
          clear BK309
          clear BK310
          clear HB
          have BK302 := n0_
          have BK303 := n1_
          have BK304 := n2_
          have BK309 := n3_
          have BK310 := n4_
          have HB := n5_
          clear n0_ n1_ n2_ n3_ n4_ n5_
          (try clear hb)
          (try clear hb2)
          (try clear hk)
          (try clear hi)
          refine hK.out _ _ ⟨(blk_cell BK302.out 0).trans rfl, (blk_cell BK302.out 1).trans rfl, (blk_cell BK303.out 0).trans rfl, (blk_cell BK303.out 1).trans rfl⟩ (fun hHeld => ?_)
          clear hK K
          refine norm_ (a' := ?_) ?_ ?_
          rotate_left
          · show Act.put _ (some 16) _ = _
            simp only [Act.put, List.setIfInBounds_toArray, List.set_cons_zero, List.set_cons_succ, i64_w, i32_w]
            rfl
          exact norm_ (by first | (simp only [putAll, Act.put, List.setIfInBounds_toArray, List.set_cons_zero, List.set_cons_succ]; done) | (simp only [putAll, Act.put, List.setIfInBounds_toArray, List.set_cons_zero, List.set_cons_succ]; rfl)) (hJ4_9_10_11 (gb309, gb310) _ ⟨hHeld, (by (with_reducible repeat (first | refine blk_drewN ?_ _ | refine blk_drew ?_ | refine blk_alloc ?_ _)); exact BK302.out), (by (with_reducible repeat (first | refine blk_drewN ?_ _ | refine blk_drew ?_ | refine blk_alloc ?_ _)); exact BK303.out), (by (with_reducible repeat (first | refine blk_drewN ?_ _ | refine blk_drew ?_ | refine blk_alloc ?_ _)); exact BK304.out), (by (with_reducible repeat (first | refine blk_drewN ?_ _ | refine blk_drew ?_ | refine blk_alloc ?_ _)); exact BK309.out), (by (with_reducible repeat (first | refine blk_drewN ?_ _ | refine blk_drew ?_ | refine blk_alloc ?_ _)); exact BK310.out), GW309.out, GE309.out, NB302_309.out, NB309_302.out, NB303_309.out, NB309_303.out, NB304_309.out, NB309_304.out, NB310_309.out, NB309_310.out, GW310.out, GE310.out, NB302_310.out, NB310_302.out, NB303_310.out, NB310_303.out, NB304_310.out, NB310_304.out, (by repeat (first | (with_reducible first | exact HB.out | apply below_alloc | apply pw_below_drewN | apply below_drew1 | refine below_set ?_ GE302.out | refine below_set ?_ GE303.out | refine below_set ?_ GE304.out | refine below_set ?_ GE309.out | refine below_set ?_ GE310.out) | exact HB.out))⟩)
      · skip
        rintro gb310 w12 ⟨hS_, h0_, h1_, h2_, h3_, h4_, h5_, h6_, h7_, h8_, h9_, h10_, h11_, h12_⟩
        have n0_ : Aside0 (w12.heap[gb302]? = some (.cells #[.int .i64 a0_0, .int .i64 a0_1] 101 (0, 0))) := ⟨h0_⟩
        have n1_ : Aside0 (w12.heap[gb303]? = some (.cells #[.int .i64 a1_0, .int .i64 a1_1] 101 (0, 0))) := ⟨h1_⟩
        have n2_ : Aside0 (w12.heap[gb304]? = some (.cells #[.int .i64 0, .int .i64 0] 101 (0, 0))) := ⟨h2_⟩
        have n3_ : Aside0 (w12.heap[gb310]? = some (.cells #[.int .i64 0, .int .i64 0] 101 (0, 0))) := ⟨h3_⟩
        have n4_ : Aside0 (w.heap.size ≤ gb310) := ⟨h4_⟩
        have n5_ : Aside0 (w.heap.size ≤ gb310) := ⟨h5_⟩
        have n6_ : Aside0 (gb302 ≠ gb310) := ⟨h6_⟩
        have n7_ : Aside0 (gb310 ≠ gb302) := ⟨h7_⟩
        have n8_ : Aside0 (gb303 ≠ gb310) := ⟨h8_⟩
        have n9_ : Aside0 (gb310 ≠ gb303) := ⟨h9_⟩
        have n10_ : Aside0 (gb304 ≠ gb310) := ⟨h10_⟩
        have n11_ : Aside0 (gb310 ≠ gb304) := ⟨h11_⟩
        have n12_ : Aside0 (Below w.heap.size w w12) := ⟨h12_⟩
        clear BK302
        clear BK303
        clear BK304
        clear HB
        clear h0_ h1_ h2_ h3_ h4_ h5_ h6_ h7_ h8_ h9_ h10_ h11_ h12_
        have BK302 := n0_
        have BK303 := n1_
        have BK304 := n2_
        have BK310 := n3_
        have GW310 := n4_
        have GE310 := n5_
        have NB302_310 := n6_
        have NB310_302 := n7_
        have NB303_310 := n8_
        have NB310_303 := n9_
        have NB304_310 := n10_
        have NB310_304 := n11_
        have HB := n12_
        clear n0_ n1_ n2_ n3_ n4_ n5_ n6_ n7_ n8_ n9_ n10_ n11_ n12_
        have hHeld : w12.cell? ⟨gb302, 0, none⟩ = some (.int .i64 a0_0) ∧ w12.cell? ⟨gb302, 1, none⟩ = some (.int .i64 a0_1) ∧ w12.cell? ⟨gb303, 0, none⟩ = some (.int .i64 a1_0) ∧ w12.cell? ⟨gb303, 1, none⟩ = some (.int .i64 a1_1) := hS_
        refine norm_ (a' := ?_) ?_ ?_
        rotate_left
        · simp only [putAll, Act.put, List.setIfInBounds_toArray, List.set_cons_zero, List.set_cons_succ]
          rfl
        refine one_ (i := 10) (N := some 5) #[true, true, true, true, true, true, true, true, true, true, true, true, false, false] rfl rfl (one_of HT_.out (by kernel_rfl)) (by decide) (fun K hK => ?_)
        refine box_step ?hg (N := 5) ?hd (cs := #[.int .i64 0, .int .i64 0]) (t := 101) ?hr ?_; (case hd => rfl); (case hg => rfl); (case hr => first | (go_simp; done) | (go_simp; rfl))
        intro gb309 hg w13 hbox hb
        have n0_ := Aside0.mk (blk_below (g := gb302) (o := .cells #[.int .i64 a0_0, .int .i64 a0_1] 101 (0, 0)) (by (with_reducible repeat (first | refine blk_drewN ?_ _ | refine blk_drew ?_ | refine blk_alloc ?_ _)); exact BK302.out) hb)
        have n1_ := Aside0.mk (blk_below (g := gb303) (o := .cells #[.int .i64 a1_0, .int .i64 a1_1] 101 (0, 0)) (by (with_reducible repeat (first | refine blk_drewN ?_ _ | refine blk_drew ?_ | refine blk_alloc ?_ _)); exact BK303.out) hb)
        have n2_ := Aside0.mk (blk_below (g := gb304) (o := .cells #[.int .i64 0, .int .i64 0] 101 (0, 0)) (by (with_reducible repeat (first | refine blk_drewN ?_ _ | refine blk_drew ?_ | refine blk_alloc ?_ _)); exact BK304.out) hb)
        have n3_ := Aside0.mk (blk_below (g := gb310) (o := .cells #[.int .i64 0, .int .i64 0] 101 (0, 0)) (by (with_reducible repeat (first | refine blk_drewN ?_ _ | refine blk_drew ?_ | refine blk_alloc ?_ _)); exact BK310.out) hb)
        have n4_ := Aside0.mk (below_step (by repeat (first | (with_reducible first | exact HB.out | apply below_alloc | apply pw_below_drewN | apply below_drew1 | refine below_set ?_ GE302.out | refine below_set ?_ GE303.out | refine below_set ?_ GE304.out | refine below_set ?_ GE310.out) | exact HB.out)) hb)
        have n5_ := Aside0.mk (hbox)
        have n6_ := Aside0.mk ((by rw [hg]; exact (below_size (by repeat (first | (with_reducible first | exact HB.out | apply below_alloc | apply pw_below_drewN | apply below_drew1 | refine below_set ?_ GE302.out | refine below_set ?_ GE303.out | refine below_set ?_ GE304.out | refine below_set ?_ GE310.out) | exact HB.out))) : w.heap.size ≤ gb309))
        have n7_ := Aside0.mk ((by rw [hg]; exact (below_size (by repeat (first | (with_reducible first | exact HB.out | apply below_alloc | apply pw_below_drewN | apply below_drew1 | refine below_set ?_ GE302.out | refine below_set ?_ GE303.out | refine below_set ?_ GE304.out | refine below_set ?_ GE310.out) | exact HB.out))) : w.heap.size ≤ gb309))
        have n8_ := Aside0.mk ((by rw [hg]; exact Nat.ne_of_lt (blk_lt (g := gb302) (o := .cells #[.int .i64 a0_0, .int .i64 a0_1] 101 (0, 0)) (by (with_reducible repeat (first | refine blk_drewN ?_ _ | refine blk_drew ?_ | refine blk_alloc ?_ _)); exact BK302.out)) : gb302 ≠ gb309))
        have n9_ := Aside0.mk ((by rw [hg]; exact Nat.ne_of_gt (blk_lt (g := gb302) (o := .cells #[.int .i64 a0_0, .int .i64 a0_1] 101 (0, 0)) (by (with_reducible repeat (first | refine blk_drewN ?_ _ | refine blk_drew ?_ | refine blk_alloc ?_ _)); exact BK302.out)) : gb309 ≠ gb302))
        have n10_ := Aside0.mk ((by rw [hg]; exact Nat.ne_of_lt (blk_lt (g := gb303) (o := .cells #[.int .i64 a1_0, .int .i64 a1_1] 101 (0, 0)) (by (with_reducible repeat (first | refine blk_drewN ?_ _ | refine blk_drew ?_ | refine blk_alloc ?_ _)); exact BK303.out)) : gb303 ≠ gb309))
        have n11_ := Aside0.mk ((by rw [hg]; exact Nat.ne_of_gt (blk_lt (g := gb303) (o := .cells #[.int .i64 a1_0, .int .i64 a1_1] 101 (0, 0)) (by (with_reducible repeat (first | refine blk_drewN ?_ _ | refine blk_drew ?_ | refine blk_alloc ?_ _)); exact BK303.out)) : gb309 ≠ gb303))
        have n12_ := Aside0.mk ((by rw [hg]; exact Nat.ne_of_lt (blk_lt (g := gb304) (o := .cells #[.int .i64 0, .int .i64 0] 101 (0, 0)) (by (with_reducible repeat (first | refine blk_drewN ?_ _ | refine blk_drew ?_ | refine blk_alloc ?_ _)); exact BK304.out)) : gb304 ≠ gb309))
        have n13_ := Aside0.mk ((by rw [hg]; exact Nat.ne_of_gt (blk_lt (g := gb304) (o := .cells #[.int .i64 0, .int .i64 0] 101 (0, 0)) (by (with_reducible repeat (first | refine blk_drewN ?_ _ | refine blk_drew ?_ | refine blk_alloc ?_ _)); exact BK304.out)) : gb309 ≠ gb304))
        have n14_ := Aside0.mk ((by rw [hg]; exact Nat.ne_of_lt (blk_lt (g := gb310) (o := .cells #[.int .i64 0, .int .i64 0] 101 (0, 0)) (by (with_reducible repeat (first | refine blk_drewN ?_ _ | refine blk_drew ?_ | refine blk_alloc ?_ _)); exact BK310.out)) : gb310 ≠ gb309))
        have n15_ := Aside0.mk ((by rw [hg]; exact Nat.ne_of_gt (blk_lt (g := gb310) (o := .cells #[.int .i64 0, .int .i64 0] 101 (0, 0)) (by (with_reducible repeat (first | refine blk_drewN ?_ _ | refine blk_drew ?_ | refine blk_alloc ?_ _)); exact BK310.out)) : gb309 ≠ gb310))
        clear BK302
        clear BK303
        clear BK304
        clear BK310
        clear HB
        have BK302 := n0_
        have BK303 := n1_
        have BK304 := n2_
        have BK310 := n3_
        have HB := n4_
        have BK309 := n5_
        have GW309 := n6_
        have GE309 := n7_
        have NB302_309 := n8_
        have NB309_302 := n9_
        have NB303_309 := n10_
        have NB309_303 := n11_
        have NB304_309 := n12_
        have NB309_304 := n13_
        have NB310_309 := n14_
        have NB309_310 := n15_
        clear n0_ n1_ n2_ n3_ n4_ n5_ n6_ n7_ n8_ n9_ n10_ n11_ n12_ n13_ n14_ n15_
        clear hb hbox hg
        refine hK.out _ _ ⟨(blk_cell BK302.out 0).trans rfl, (blk_cell BK302.out 1).trans rfl, (blk_cell BK303.out 0).trans rfl, (blk_cell BK303.out 1).trans rfl⟩ (fun hHeld => ?_)
        clear hK K
        refine norm_ (a' := ?_) ?_ ?_
        rotate_left
        · show Act.put _ (some 5) _ = _
          simp only [Act.put, List.setIfInBounds_toArray, List.set_cons_zero, List.set_cons_succ, i64_w, i32_w]
          rfl
        exact norm_ (by first | (simp only [putAll, Act.put, List.setIfInBounds_toArray, List.set_cons_zero, List.set_cons_succ]; done) | (simp only [putAll, Act.put, List.setIfInBounds_toArray, List.set_cons_zero, List.set_cons_succ]; rfl)) (hJ4_9_10_11 (gb309, gb310) _ ⟨hHeld, (by (with_reducible repeat (first | refine blk_drewN ?_ _ | refine blk_drew ?_ | refine blk_alloc ?_ _)); exact BK302.out), (by (with_reducible repeat (first | refine blk_drewN ?_ _ | refine blk_drew ?_ | refine blk_alloc ?_ _)); exact BK303.out), (by (with_reducible repeat (first | refine blk_drewN ?_ _ | refine blk_drew ?_ | refine blk_alloc ?_ _)); exact BK304.out), (by (with_reducible repeat (first | refine blk_drewN ?_ _ | refine blk_drew ?_ | refine blk_alloc ?_ _)); exact BK309.out), (by (with_reducible repeat (first | refine blk_drewN ?_ _ | refine blk_drew ?_ | refine blk_alloc ?_ _)); exact BK310.out), GW309.out, GE309.out, NB302_309.out, NB309_302.out, NB303_309.out, NB309_303.out, NB304_309.out, NB309_304.out, NB310_309.out, NB309_310.out, GW310.out, GE310.out, NB302_310.out, NB310_302.out, NB303_310.out, NB310_303.out, NB304_310.out, NB310_304.out, (by repeat (first | (with_reducible first | exact HB.out | apply below_alloc | apply pw_below_drewN | apply below_drew1 | refine below_set ?_ GE302.out | refine below_set ?_ GE303.out | refine below_set ?_ GE304.out | refine below_set ?_ GE310.out | refine below_set ?_ GE309.out) | exact HB.out))⟩)
    · skip
      rintro gb309 w12 ⟨hS_, h0_, h1_, h2_, h3_, h4_, h5_, h6_, h7_, h8_, h9_, h10_, h11_, h12_⟩
      have n0_ : Aside0 (w12.heap[gb302]? = some (.cells #[.int .i64 a0_0, .int .i64 a0_1] 101 (0, 0))) := ⟨h0_⟩
      have n1_ : Aside0 (w12.heap[gb303]? = some (.cells #[.int .i64 a1_0, .int .i64 a1_1] 101 (0, 0))) := ⟨h1_⟩
      have n2_ : Aside0 (w12.heap[gb304]? = some (.cells #[.int .i64 0, .int .i64 0] 101 (0, 0))) := ⟨h2_⟩
      have n3_ : Aside0 (w12.heap[gb309]? = some (.cells #[.int .i64 0, .int .i64 0] 101 (0, 0))) := ⟨h3_⟩
      have n4_ : Aside0 (w.heap.size ≤ gb309) := ⟨h4_⟩
      have n5_ : Aside0 (w.heap.size ≤ gb309) := ⟨h5_⟩
      have n6_ : Aside0 (gb302 ≠ gb309) := ⟨h6_⟩
      have n7_ : Aside0 (gb309 ≠ gb302) := ⟨h7_⟩
      have n8_ : Aside0 (gb303 ≠ gb309) := ⟨h8_⟩
      have n9_ : Aside0 (gb309 ≠ gb303) := ⟨h9_⟩
      have n10_ : Aside0 (gb304 ≠ gb309) := ⟨h10_⟩
      have n11_ : Aside0 (gb309 ≠ gb304) := ⟨h11_⟩
      have n12_ : Aside0 (Below w.heap.size w w12) := ⟨h12_⟩
      clear BK302
      clear BK303
      clear BK304
      clear HB
      clear h0_ h1_ h2_ h3_ h4_ h5_ h6_ h7_ h8_ h9_ h10_ h11_ h12_
      have BK302 := n0_
      have BK303 := n1_
      have BK304 := n2_
      have BK309 := n3_
      have GW309 := n4_
      have GE309 := n5_
      have NB302_309 := n6_
      have NB309_302 := n7_
      have NB303_309 := n8_
      have NB309_303 := n9_
      have NB304_309 := n10_
      have NB309_304 := n11_
      have HB := n12_
      clear n0_ n1_ n2_ n3_ n4_ n5_ n6_ n7_ n8_ n9_ n10_ n11_ n12_
      have hHeld : w12.cell? ⟨gb302, 0, none⟩ = some (.int .i64 a0_0) ∧ w12.cell? ⟨gb302, 1, none⟩ = some (.int .i64 a0_1) ∧ w12.cell? ⟨gb303, 0, none⟩ = some (.int .i64 a1_0) ∧ w12.cell? ⟨gb303, 1, none⟩ = some (.int .i64 a1_1) := hS_
      refine norm_ (a' := ?_) ?_ ?_
      rotate_left
      · simp only [putAll, Act.put, List.setIfInBounds_toArray, List.set_cons_zero, List.set_cons_succ]
        rfl
      refine one_ (i := 11) (N := some 6) #[true, true, true, true, true, true, true, true, true, true, true, true, false, false] rfl rfl (one_of HT_.out (by kernel_rfl)) (by decide) (fun K hK => ?_)
      refine box_step ?hg (N := 6) ?hd (cs := #[.int .i64 0, .int .i64 0]) (t := 101) ?hr ?_; (case hd => rfl); (case hg => rfl); (case hr => first | (go_simp; done) | (go_simp; rfl))
      intro gb310 hg w13 hbox hb
      have n0_ := Aside0.mk (blk_below (g := gb302) (o := .cells #[.int .i64 a0_0, .int .i64 a0_1] 101 (0, 0)) (by (with_reducible repeat (first | refine blk_drewN ?_ _ | refine blk_drew ?_ | refine blk_alloc ?_ _)); exact BK302.out) hb)
      have n1_ := Aside0.mk (blk_below (g := gb303) (o := .cells #[.int .i64 a1_0, .int .i64 a1_1] 101 (0, 0)) (by (with_reducible repeat (first | refine blk_drewN ?_ _ | refine blk_drew ?_ | refine blk_alloc ?_ _)); exact BK303.out) hb)
      have n2_ := Aside0.mk (blk_below (g := gb304) (o := .cells #[.int .i64 0, .int .i64 0] 101 (0, 0)) (by (with_reducible repeat (first | refine blk_drewN ?_ _ | refine blk_drew ?_ | refine blk_alloc ?_ _)); exact BK304.out) hb)
      have n3_ := Aside0.mk (blk_below (g := gb309) (o := .cells #[.int .i64 0, .int .i64 0] 101 (0, 0)) (by (with_reducible repeat (first | refine blk_drewN ?_ _ | refine blk_drew ?_ | refine blk_alloc ?_ _)); exact BK309.out) hb)
      have n4_ := Aside0.mk (below_step (by repeat (first | (with_reducible first | exact HB.out | apply below_alloc | apply pw_below_drewN | apply below_drew1 | refine below_set ?_ GE302.out | refine below_set ?_ GE303.out | refine below_set ?_ GE304.out | refine below_set ?_ GE309.out) | exact HB.out)) hb)
      have n5_ := Aside0.mk (hbox)
      have n6_ := Aside0.mk ((by rw [hg]; exact (below_size (by repeat (first | (with_reducible first | exact HB.out | apply below_alloc | apply pw_below_drewN | apply below_drew1 | refine below_set ?_ GE302.out | refine below_set ?_ GE303.out | refine below_set ?_ GE304.out | refine below_set ?_ GE309.out) | exact HB.out))) : w.heap.size ≤ gb310))
      have n7_ := Aside0.mk ((by rw [hg]; exact (below_size (by repeat (first | (with_reducible first | exact HB.out | apply below_alloc | apply pw_below_drewN | apply below_drew1 | refine below_set ?_ GE302.out | refine below_set ?_ GE303.out | refine below_set ?_ GE304.out | refine below_set ?_ GE309.out) | exact HB.out))) : w.heap.size ≤ gb310))
      have n8_ := Aside0.mk ((by rw [hg]; exact Nat.ne_of_lt (blk_lt (g := gb302) (o := .cells #[.int .i64 a0_0, .int .i64 a0_1] 101 (0, 0)) (by (with_reducible repeat (first | refine blk_drewN ?_ _ | refine blk_drew ?_ | refine blk_alloc ?_ _)); exact BK302.out)) : gb302 ≠ gb310))
      have n9_ := Aside0.mk ((by rw [hg]; exact Nat.ne_of_gt (blk_lt (g := gb302) (o := .cells #[.int .i64 a0_0, .int .i64 a0_1] 101 (0, 0)) (by (with_reducible repeat (first | refine blk_drewN ?_ _ | refine blk_drew ?_ | refine blk_alloc ?_ _)); exact BK302.out)) : gb310 ≠ gb302))
      have n10_ := Aside0.mk ((by rw [hg]; exact Nat.ne_of_lt (blk_lt (g := gb303) (o := .cells #[.int .i64 a1_0, .int .i64 a1_1] 101 (0, 0)) (by (with_reducible repeat (first | refine blk_drewN ?_ _ | refine blk_drew ?_ | refine blk_alloc ?_ _)); exact BK303.out)) : gb303 ≠ gb310))
      have n11_ := Aside0.mk ((by rw [hg]; exact Nat.ne_of_gt (blk_lt (g := gb303) (o := .cells #[.int .i64 a1_0, .int .i64 a1_1] 101 (0, 0)) (by (with_reducible repeat (first | refine blk_drewN ?_ _ | refine blk_drew ?_ | refine blk_alloc ?_ _)); exact BK303.out)) : gb310 ≠ gb303))
      have n12_ := Aside0.mk ((by rw [hg]; exact Nat.ne_of_lt (blk_lt (g := gb304) (o := .cells #[.int .i64 0, .int .i64 0] 101 (0, 0)) (by (with_reducible repeat (first | refine blk_drewN ?_ _ | refine blk_drew ?_ | refine blk_alloc ?_ _)); exact BK304.out)) : gb304 ≠ gb310))
      have n13_ := Aside0.mk ((by rw [hg]; exact Nat.ne_of_gt (blk_lt (g := gb304) (o := .cells #[.int .i64 0, .int .i64 0] 101 (0, 0)) (by (with_reducible repeat (first | refine blk_drewN ?_ _ | refine blk_drew ?_ | refine blk_alloc ?_ _)); exact BK304.out)) : gb310 ≠ gb304))
      have n14_ := Aside0.mk ((by rw [hg]; exact Nat.ne_of_lt (blk_lt (g := gb309) (o := .cells #[.int .i64 0, .int .i64 0] 101 (0, 0)) (by (with_reducible repeat (first | refine blk_drewN ?_ _ | refine blk_drew ?_ | refine blk_alloc ?_ _)); exact BK309.out)) : gb309 ≠ gb310))
      have n15_ := Aside0.mk ((by rw [hg]; exact Nat.ne_of_gt (blk_lt (g := gb309) (o := .cells #[.int .i64 0, .int .i64 0] 101 (0, 0)) (by (with_reducible repeat (first | refine blk_drewN ?_ _ | refine blk_drew ?_ | refine blk_alloc ?_ _)); exact BK309.out)) : gb310 ≠ gb309))
      clear BK302
      clear BK303
      clear BK304
      clear BK309
      clear HB
      have BK302 := n0_
      have BK303 := n1_
      have BK304 := n2_
      have BK309 := n3_
      have HB := n4_
      have BK310 := n5_
      have GW310 := n6_
      have GE310 := n7_
      have NB302_310 := n8_
      have NB310_302 := n9_
      have NB303_310 := n10_
      have NB310_303 := n11_
      have NB304_310 := n12_
      have NB310_304 := n13_
      have NB309_310 := n14_
      have NB310_309 := n15_
      clear n0_ n1_ n2_ n3_ n4_ n5_ n6_ n7_ n8_ n9_ n10_ n11_ n12_ n13_ n14_ n15_
      clear hb hbox hg
      refine hK.out _ _ ⟨(blk_cell BK302.out 0).trans rfl, (blk_cell BK302.out 1).trans rfl, (blk_cell BK303.out 0).trans rfl, (blk_cell BK303.out 1).trans rfl⟩ (fun hHeld => ?_)
      clear hK K
      refine norm_ (a' := ?_) ?_ ?_
      rotate_left
      · show Act.put _ (some 6) _ = _
        simp only [Act.put, List.setIfInBounds_toArray, List.set_cons_zero, List.set_cons_succ, i64_w, i32_w]
        rfl
      exact norm_ (by first | (simp only [putAll, Act.put, List.setIfInBounds_toArray, List.set_cons_zero, List.set_cons_succ]; done) | (simp only [putAll, Act.put, List.setIfInBounds_toArray, List.set_cons_zero, List.set_cons_succ]; rfl)) (hJ4_9_10_11 (gb309, gb310) _ ⟨hHeld, (by (with_reducible repeat (first | refine blk_drewN ?_ _ | refine blk_drew ?_ | refine blk_alloc ?_ _)); exact BK302.out), (by (with_reducible repeat (first | refine blk_drewN ?_ _ | refine blk_drew ?_ | refine blk_alloc ?_ _)); exact BK303.out), (by (with_reducible repeat (first | refine blk_drewN ?_ _ | refine blk_drew ?_ | refine blk_alloc ?_ _)); exact BK304.out), (by (with_reducible repeat (first | refine blk_drewN ?_ _ | refine blk_drew ?_ | refine blk_alloc ?_ _)); exact BK309.out), (by (with_reducible repeat (first | refine blk_drewN ?_ _ | refine blk_drew ?_ | refine blk_alloc ?_ _)); exact BK310.out), GW309.out, GE309.out, NB302_309.out, NB309_302.out, NB303_309.out, NB309_303.out, NB304_309.out, NB309_304.out, NB310_309.out, NB309_310.out, GW310.out, GE310.out, NB302_310.out, NB310_302.out, NB303_310.out, NB310_303.out, NB304_310.out, NB310_304.out, (by repeat (first | (with_reducible first | exact HB.out | apply below_alloc | apply pw_below_drewN | apply below_drew1 | refine below_set ?_ GE302.out | refine below_set ?_ GE303.out | refine below_set ?_ GE304.out | refine below_set ?_ GE309.out | refine below_set ?_ GE310.out) | exact HB.out))⟩)
  rintro ⟨gb309, gb310⟩ w13 ⟨hS_, h0_, h1_, h2_, h3_, h4_, h5_, h6_, h7_, h8_, h9_, h10_, h11_, h12_, h13_, h14_, h15_, h16_, h17_, h18_, h19_, h20_, h21_, h22_, h23_⟩
  have n0_ : Aside0 (w13.heap[gb302]? = some (.cells #[.int .i64 a0_0, .int .i64 a0_1] 101 (0, 0))) := ⟨h0_⟩
  have n1_ : Aside0 (w13.heap[gb303]? = some (.cells #[.int .i64 a1_0, .int .i64 a1_1] 101 (0, 0))) := ⟨h1_⟩
  have n2_ : Aside0 (w13.heap[gb304]? = some (.cells #[.int .i64 0, .int .i64 0] 101 (0, 0))) := ⟨h2_⟩
  have n3_ : Aside0 (w13.heap[gb309]? = some (.cells #[.int .i64 0, .int .i64 0] 101 (0, 0))) := ⟨h3_⟩
  have n4_ : Aside0 (w13.heap[gb310]? = some (.cells #[.int .i64 0, .int .i64 0] 101 (0, 0))) := ⟨h4_⟩
  have n5_ : Aside0 (w.heap.size ≤ gb309) := ⟨h5_⟩
  have n6_ : Aside0 (w.heap.size ≤ gb309) := ⟨h6_⟩
  have n7_ : Aside0 (gb302 ≠ gb309) := ⟨h7_⟩
  have n8_ : Aside0 (gb309 ≠ gb302) := ⟨h8_⟩
  have n9_ : Aside0 (gb303 ≠ gb309) := ⟨h9_⟩
  have n10_ : Aside0 (gb309 ≠ gb303) := ⟨h10_⟩
  have n11_ : Aside0 (gb304 ≠ gb309) := ⟨h11_⟩
  have n12_ : Aside0 (gb309 ≠ gb304) := ⟨h12_⟩
  have n13_ : Aside0 (gb310 ≠ gb309) := ⟨h13_⟩
  have n14_ : Aside0 (gb309 ≠ gb310) := ⟨h14_⟩
  have n15_ : Aside0 (w.heap.size ≤ gb310) := ⟨h15_⟩
  have n16_ : Aside0 (w.heap.size ≤ gb310) := ⟨h16_⟩
  have n17_ : Aside0 (gb302 ≠ gb310) := ⟨h17_⟩
  have n18_ : Aside0 (gb310 ≠ gb302) := ⟨h18_⟩
  have n19_ : Aside0 (gb303 ≠ gb310) := ⟨h19_⟩
  have n20_ : Aside0 (gb310 ≠ gb303) := ⟨h20_⟩
  have n21_ : Aside0 (gb304 ≠ gb310) := ⟨h21_⟩
  have n22_ : Aside0 (gb310 ≠ gb304) := ⟨h22_⟩
  have n23_ : Aside0 (Below w.heap.size w w13) := ⟨h23_⟩
  clear BK302
  clear BK303
  clear BK304
  clear HB
  clear h0_ h1_ h2_ h3_ h4_ h5_ h6_ h7_ h8_ h9_ h10_ h11_ h12_ h13_ h14_ h15_ h16_ h17_ h18_ h19_ h20_ h21_ h22_ h23_
  have BK302 := n0_
  have BK303 := n1_
  have BK304 := n2_
  have BK309 := n3_
  have BK310 := n4_
  have GW309 := n5_
  have GE309 := n6_
  have NB302_309 := n7_
  have NB309_302 := n8_
  have NB303_309 := n9_
  have NB309_303 := n10_
  have NB304_309 := n11_
  have NB309_304 := n12_
  have NB310_309 := n13_
  have NB309_310 := n14_
  have GW310 := n15_
  have GE310 := n16_
  have NB302_310 := n17_
  have NB310_302 := n18_
  have NB303_310 := n19_
  have NB310_303 := n20_
  have NB304_310 := n21_
  have NB310_304 := n22_
  have HB := n23_
  clear n0_ n1_ n2_ n3_ n4_ n5_ n6_ n7_ n8_ n9_ n10_ n11_ n12_ n13_ n14_ n15_ n16_ n17_ n18_ n19_ n20_ n21_ n22_ n23_
  have hHeld : w13.cell? ⟨gb302, 0, none⟩ = some (.int .i64 a0_0) ∧ w13.cell? ⟨gb302, 1, none⟩ = some (.int .i64 a0_1) ∧ w13.cell? ⟨gb303, 0, none⟩ = some (.int .i64 a1_0) ∧ w13.cell? ⟨gb303, 1, none⟩ = some (.int .i64 a1_1) := hS_
  refine norm_ (a' := ?_) ?_ ?_
  rotate_left
  · simp only [putAll, Act.put, List.setIfInBounds_toArray, List.set_cons_zero, List.set_cons_succ]
    rfl
  refine one_ (i := 12) (N := none) #[true, true, true, true, true, true, true, true, true, true, true, true, true, false] rfl rfl (one_of HT_.out (by kernel_rfl)) (by decide) (fun K hK => ?_)
  have hs14 : w13.cell? ⟨gb309, 0, none⟩ = some (.int .i64 0) := (blk_cell BK309.out 0).trans rfl
  have hfs14 := blk_frozen BK309.out 0
  have hns14_0 := NB302_309.out
  have hns14_1 := NB303_309.out
  have hns14_2 := NB304_309.out
  have hns14_4 := NB310_309.out
  have hms14_0 := NB309_302.out
  have hms14_1 := NB309_303.out
  have hms14_2 := NB309_304.out
  have hms14_4 := NB309_310.out
  have hs15 : w13.cell? ⟨gb309, 1, none⟩ = some (.int .i64 0) := (blk_cell BK309.out 1).trans rfl
  have hfs15 := blk_frozen BK309.out 1
  have hns15_0 := NB302_309.out
  have hns15_1 := NB303_309.out
  have hns15_2 := NB304_309.out
  have hns15_4 := NB310_309.out
  have hms15_0 := NB309_302.out
  have hms15_1 := NB309_303.out
  have hms15_2 := NB309_304.out
  have hms15_4 := NB309_310.out
  refine skip_ (w1 := ?_) (by rfl) rfl ?_ ?_
  rotate_left
  · go_simp
    rfl
  refine hK.out _ _ ⟨((cell_far (p := ⟨gb309, _, none⟩) NB302_309.out _).trans (((cell_far (p := ⟨gb309, _, none⟩) NB302_309.out _).trans (hHeld.1)))), ((cell_far (p := ⟨gb309, _, none⟩) NB302_309.out _).trans (((cell_far (p := ⟨gb309, _, none⟩) NB302_309.out _).trans (hHeld.2.1)))), ((cell_far (p := ⟨gb309, _, none⟩) NB303_309.out _).trans (((cell_far (p := ⟨gb309, _, none⟩) NB303_309.out _).trans (hHeld.2.2.1)))), ((cell_far (p := ⟨gb309, _, none⟩) NB303_309.out _).trans (((cell_far (p := ⟨gb309, _, none⟩) NB303_309.out _).trans (hHeld.2.2.2))))⟩ (fun hHeld => ?_)
  clear hK K
  refine one_ (i := 13) (N := none) #[true, true, true, true, true, true, true, true, true, true, true, true, true, true] rfl rfl (one_of HT_.out (by kernel_rfl)) (by decide) (fun K hK => ?_)
  have hs16 : w13.cell? ⟨gb310, 0, none⟩ = some (.int .i64 0) := (blk_cell BK310.out 0).trans rfl
  have hfs16 := blk_frozen BK310.out 0
  have hns16_0 := NB302_310.out
  have hns16_1 := NB303_310.out
  have hns16_2 := NB304_310.out
  have hns16_3 := NB309_310.out
  have hms16_0 := NB310_302.out
  have hms16_1 := NB310_303.out
  have hms16_2 := NB310_304.out
  have hms16_3 := NB310_309.out
  have hs17 : w13.cell? ⟨gb310, 1, none⟩ = some (.int .i64 0) := (blk_cell BK310.out 1).trans rfl
  have hfs17 := blk_frozen BK310.out 1
  have hns17_0 := NB302_310.out
  have hns17_1 := NB303_310.out
  have hns17_2 := NB304_310.out
  have hns17_3 := NB309_310.out
  have hms17_0 := NB310_302.out
  have hms17_1 := NB310_303.out
  have hms17_2 := NB310_304.out
  have hms17_3 := NB310_309.out
  refine skip_ (w1 := ?_) (by rfl) rfl ?_ ?_
  rotate_left
  · go_simp
    rfl
  refine hK.out _ _ ⟨((cell_far (p := ⟨gb310, _, none⟩) NB302_310.out _).trans (((cell_far (p := ⟨gb310, _, none⟩) NB302_310.out _).trans (hHeld.1)))), ((cell_far (p := ⟨gb310, _, none⟩) NB302_310.out _).trans (((cell_far (p := ⟨gb310, _, none⟩) NB302_310.out _).trans (hHeld.2.1)))), ((cell_far (p := ⟨gb310, _, none⟩) NB303_310.out _).trans (((cell_far (p := ⟨gb310, _, none⟩) NB303_310.out _).trans (hHeld.2.2.1)))), ((cell_far (p := ⟨gb310, _, none⟩) NB303_310.out _).trans (((cell_far (p := ⟨gb310, _, none⟩) NB303_310.out _).trans (hHeld.2.2.2))))⟩ (fun hHeld => ?_)
  clear hK K
  refine done_ (done_of HT_.out (by kernel_rfl)) ?_
  have hnb18 := NB309_302.out
  have hnc18 := NB302_309.out
  have hnb19 := NB309_303.out
  have hnc19 := NB303_309.out
  have hnb20 := NB309_304.out
  have hnc20 := NB304_309.out
  have hnb21 := NB309_310.out
  have hnc21 := NB310_309.out
  have hcz22_0 : w13.cell? ⟨gb309, 0, none⟩ = some (.int .i64 0) := (blk_cell BK309.out 0).trans rfl
  have hcz22_1 : w13.cell? ⟨gb309, 1, none⟩ = some (.int .i64 0) := (blk_cell BK309.out 1).trans rfl
  have hfz22_0 := blk_frozen BK309.out 0
  have hfz22_1 := blk_frozen BK309.out 1
  have hnb23 := NB310_302.out
  have hnc23 := NB302_310.out
  have hnb24 := NB310_303.out
  have hnc24 := NB303_310.out
  have hnb25 := NB310_304.out
  have hnc25 := NB304_310.out
  have hcz26_0 : w13.cell? ⟨gb310, 0, none⟩ = some (.int .i64 0) := (blk_cell BK310.out 0).trans rfl
  have hcz26_1 : w13.cell? ⟨gb310, 1, none⟩ = some (.int .i64 0) := (blk_cell BK310.out 1).trans rfl
  have hfz26_0 := blk_frozen BK310.out 0
  have hfz26_1 := blk_frozen BK310.out 1
  have hnb27 := NB304_302.out
  have hnc27 := NB302_304.out
  have hnb28 := NB304_303.out
  have hnc28 := NB303_304.out
  have hcz29_0 : w13.cell? ⟨gb304, 0, none⟩ = some (.int .i64 0) := (blk_cell BK304.out 0).trans rfl
  have hcz29_1 : w13.cell? ⟨gb304, 1, none⟩ = some (.int .i64 0) := (blk_cell BK304.out 1).trans rfl
  have hfz29_0 := blk_frozen BK304.out 0
  have hfz29_1 := blk_frozen BK304.out 1
  try go_wp2
  refine bodyPost_ret (results_cell_row rfl _ _ gb304 101 #[.int .i64 (wrap64 (t305 * t307)), .int .i64 (wrap64 (t306 * t308))] (0, 0) _ rfl (by (with_reducible repeat (first | refine blk_drewN ?_ _ | refine blk_drew ?_ | refine blk_alloc ?_ _)); refine blk_put (cs := #[.int .i64 (wrap64 (t305 * t307)), .int .i64 0]) ?_ 1 _ rfl; (with_reducible repeat (first | refine blk_drewN ?_ _ | refine blk_drew ?_ | refine blk_alloc ?_ _)); refine blk_put (cs := #[.int .i64 0, .int .i64 0]) ?_ 0 _ rfl; (with_reducible repeat (first | refine blk_drewN ?_ _ | refine blk_drew ?_ | refine blk_alloc ?_ _)); refine blk_far ?_ NB304_310.out _; (with_reducible repeat (first | refine blk_drewN ?_ _ | refine blk_drew ?_ | refine blk_alloc ?_ _)); refine blk_far ?_ NB304_310.out _; (with_reducible repeat (first | refine blk_drewN ?_ _ | refine blk_drew ?_ | refine blk_alloc ?_ _)); refine blk_far ?_ NB304_309.out _; (with_reducible repeat (first | refine blk_drewN ?_ _ | refine blk_drew ?_ | refine blk_alloc ?_ _)); refine blk_far ?_ NB304_309.out _; (with_reducible repeat (first | refine blk_drewN ?_ _ | refine blk_drew ?_ | refine blk_alloc ?_ _)); exact BK304.out) Try.underlying101 rfl (by kernel_rfl)) rfl ?_
  exact ⟨by first | rfl | (simp [errW_none, errW_some] <;> rfl) | (simp [*, errW_none, errW_some] <;> rfl), by repeat (first | (with_reducible first | exact HB.out | apply below_alloc | apply pw_below_drewN | apply below_drew1 | refine below_set ?_ GE302.out | refine below_set ?_ GE303.out | refine below_set ?_ GE304.out | refine below_set ?_ GE309.out | refine below_set ?_ GE310.out) | exact HB.out)⟩
end Go.Proofs.Ytnoejflancomaaa.P
end

section
namespace Go.Proofs.Ytnoejflancomaaa.P
open Go.RowKit Go.Proofs.YtnoejflancomaaaW.PrintWords Go.Proofs.YtnoejflancomaaaW.PrintLast Go.Proofs.YtnoejflancomaaaW.PrintMore
attribute [local go_sem] max2_int min2_int max_two min_two max_three min_three max_four min_four
set_option linter.unusedVariables false
set_option linter.unusedSimpArgs false
def impl_fraction_over.f (k : Nat) (a0_0 : Int) (a0_1 : Int) (a1_0 : Int) (a1_1 : Int) : Option (Int × Int) := (impl_fractionOf.f k a1_1 a1_0).bind fun bt314 => ((impl_fraction_times.f k a0_0 a0_1 bt314.1 bt314.2).bind fun bt316 => (some (bt316.1, bt316.2)))
theorem impl_fraction_over.mono : ∀ a0 a1 a2 a3 k, LeO (impl_fraction_over.f k a0 a1 a2 a3) (impl_fraction_over.f (k + 1) a0 a1 a2 a3) := by
  intro a0 a1 a2 a3 k
  unfold impl_fraction_over.f
  repeat' first
      | (with_reducible exact impl_fractionOf.mono _ _ _)
      | (with_reducible exact impl_fraction_times.mono _ _ _ _ _)
      | (with_reducible exact LeO.refl _)
      | (with_reducible exact LeO.none _)
      | (with_reducible refine LeO.ite ?_ ?_)
      | (with_reducible refine LeO.bind ?_ (fun _ => ?_))
      | exact impl_fractionOf.mono _ _ _
      | exact impl_fraction_times.mono _ _ _ _ _
      | exact LeO.none _
      | refine LeO.ite ?_ ?_
      | refine LeO.bind ?_ (fun _ => ?_)
def impl_fraction_over.T1 : Bool × List (List Nat × List Nat) := (true, [([], []), ([], []), ([1], [1]), ([], []), ([3], [3]), ([2, 4], [2, 4]), ([0, 5, 5], [0, 5]), ([6, 6, 0, 1, 2, 3, 4, 5, 6], [6])])
def impl_fraction_over.B1 : List Nat := [0, 0, 2, 0, 8, 30, 63, 127]
theorem impl_fraction_over.tab1 : rtab .any (opsOf Try.f151 1) = impl_fraction_over.T1 := by kernel_rfl
theorem impl_fraction_over.bits1 : waitsOk impl_fraction_over.T1.2 impl_fraction_over.B1 = true := by kernel_rfl
set_option maxHeartbeats 8000000 in
set_option maxRecDepth 100000 in
theorem impl_fraction_over.calls (k : Nat) (a0_0 : Int) (a0_1 : Int) (a1_0 : Int) (a1_1 : Int) (r1 : Int) (r2 : Int) (w : World) (h : impl_fraction_over.f k a0_0 a0_1 a1_0 a1_1 = some (r1, r2)) :
    Calls Try.prog 151 #[.agg #[.int .i64 a0_0, .int .i64 a0_1], .agg #[.int .i64 a1_0, .int .i64 a1_1]] w fun e w' => e = .returned (.agg #[.int .i64 r1, .int .i64 r2]) ∧ Below w.heap.size w w' := by
  have hu101 := Try.underlying101
  have HB := Aside0.mk (Below.refl w.heap.size w)
  have H : ((impl_fractionOf.f k a1_1 a1_0).bind fun bt314 => ((impl_fraction_times.f k a0_0 a0_1 bt314.1 bt314.2).bind fun bt316 => (some (bt316.1, bt316.2)))) = some (r1, r2) := h
  clear h
  replace H := Option.bind_eq_some_iff.mp H
  obtain ⟨⟨t314, t315⟩, A30, H⟩ := H
  replace H : ((impl_fraction_times.f k a0_0 a0_1 t314 t315).bind fun bt316 => (some (bt316.1, bt316.2))) = some (r1, r2) := H
  have A3 := Aside0.mk A30
  clear A30
  replace H := Option.bind_eq_some_iff.mp H
  obtain ⟨⟨t316, t317⟩, A40, H⟩ := H
  replace H : (some (t316, t317)) = some (r1, r2) := H
  have A4 := Aside0.mk A40
  clear A40
  simp only [Option.some.injEq, Prod.mk.injEq] at H
  obtain ⟨rfl, rfl⟩ := H
  go_enter Try.func151, Try.ntmps151
  try go_wp2_with (first | ((with_reducible refine gate_dst (N := 2) rfl ?_); refine box_event ?hg (N := 2) ?hd (cs := #[.int .i64 a0_0, .int .i64 a0_1]) (t := 101) ?hr ?_; (case hd => rfl); (case hg => rfl); (case hr => first | (go_simp; done) | (go_simp; rfl)); intro gb311 hg w5 hbox hb; have n0_ := Aside0.mk (below_step (by repeat (first | (with_reducible first | exact HB.out | apply below_alloc | apply pw_below_drewN | apply below_drew1) | exact HB.out)) hb); have n1_ := Aside0.mk (hbox); have n2_ := Aside0.mk ((by rw [hg]; exact (below_size (by repeat (first | (with_reducible first | exact HB.out | apply below_alloc | apply pw_below_drewN | apply below_drew1) | exact HB.out))) : w.heap.size ≤ gb311)); have n3_ := Aside0.mk ((by rw [hg]; exact (below_size (by repeat (first | (with_reducible first | exact HB.out | apply below_alloc | apply pw_below_drewN | apply below_drew1) | exact HB.out))) : w.heap.size ≤ gb311)); clear HB; have HB := n0_; have BK311 := n1_; have GW311 := n2_; have GE311 := n3_; clear n0_ n1_ n2_ n3_; clear hb hbox hg) | ((with_reducible refine gate_dst (N := 3) rfl ?_); refine box_event ?hg (N := 3) ?hd (cs := #[.int .i64 a1_0, .int .i64 a1_1]) (t := 101) ?hr ?_; (case hd => rfl); (case hg => rfl); (case hr => first | (go_simp; done) | (go_simp; rfl)); intro gb312 hg w6 hbox hb; have n0_ := Aside0.mk (blk_below (g := gb311) (o := .cells #[.int .i64 a0_0, .int .i64 a0_1] 101 (0, 0)) (by (with_reducible repeat (first | refine blk_drewN ?_ _ | refine blk_drew ?_ | refine blk_alloc ?_ _)); exact BK311.out) hb); have n1_ := Aside0.mk (below_step (by repeat (first | (with_reducible first | exact HB.out | apply below_alloc | apply pw_below_drewN | apply below_drew1 | refine below_set ?_ GE311.out) | exact HB.out)) hb); have n2_ := Aside0.mk (hbox); have n3_ := Aside0.mk ((by rw [hg]; exact (below_size (by repeat (first | (with_reducible first | exact HB.out | apply below_alloc | apply pw_below_drewN | apply below_drew1 | refine below_set ?_ GE311.out) | exact HB.out))) : w.heap.size ≤ gb312)); have n4_ := Aside0.mk ((by rw [hg]; exact (below_size (by repeat (first | (with_reducible first | exact HB.out | apply below_alloc | apply pw_below_drewN | apply below_drew1 | refine below_set ?_ GE311.out) | exact HB.out))) : w.heap.size ≤ gb312)); have n5_ := Aside0.mk ((by rw [hg]; exact Nat.ne_of_lt (blk_lt (g := gb311) (o := .cells #[.int .i64 a0_0, .int .i64 a0_1] 101 (0, 0)) (by (with_reducible repeat (first | refine blk_drewN ?_ _ | refine blk_drew ?_ | refine blk_alloc ?_ _)); exact BK311.out)) : gb311 ≠ gb312)); have n6_ := Aside0.mk ((by rw [hg]; exact Nat.ne_of_gt (blk_lt (g := gb311) (o := .cells #[.int .i64 a0_0, .int .i64 a0_1] 101 (0, 0)) (by (with_reducible repeat (first | refine blk_drewN ?_ _ | refine blk_drew ?_ | refine blk_alloc ?_ _)); exact BK311.out)) : gb312 ≠ gb311)); clear BK311; clear HB; have BK311 := n0_; have HB := n1_; have BK312 := n2_; have GW312 := n3_; have GE312 := n4_; have NB311_312 := n5_; have NB312_311 := n6_; clear n0_ n1_ n2_ n3_ n4_ n5_ n6_; clear hb hbox hg) | ((with_reducible refine gate_dst (N := 4) rfl ?_); refine box_event ?hg (N := 4) ?hd (cs := #[.int .i64 0, .int .i64 0]) (t := 101) ?hr ?_; (case hd => rfl); (case hg => rfl); (case hr => first | (go_simp; done) | (go_simp; rfl)); intro gb313 hg w7 hbox hb; have n0_ := Aside0.mk (blk_below (g := gb311) (o := .cells #[.int .i64 a0_0, .int .i64 a0_1] 101 (0, 0)) (by (with_reducible repeat (first | refine blk_drewN ?_ _ | refine blk_drew ?_ | refine blk_alloc ?_ _)); exact BK311.out) hb); have n1_ := Aside0.mk (blk_below (g := gb312) (o := .cells #[.int .i64 a1_0, .int .i64 a1_1] 101 (0, 0)) (by (with_reducible repeat (first | refine blk_drewN ?_ _ | refine blk_drew ?_ | refine blk_alloc ?_ _)); exact BK312.out) hb); have n2_ := Aside0.mk (below_step (by repeat (first | (with_reducible first | exact HB.out | apply below_alloc | apply pw_below_drewN | apply below_drew1 | refine below_set ?_ GE311.out | refine below_set ?_ GE312.out) | exact HB.out)) hb); have n3_ := Aside0.mk (hbox); have n4_ := Aside0.mk ((by rw [hg]; exact (below_size (by repeat (first | (with_reducible first | exact HB.out | apply below_alloc | apply pw_below_drewN | apply below_drew1 | refine below_set ?_ GE311.out | refine below_set ?_ GE312.out) | exact HB.out))) : w.heap.size ≤ gb313)); have n5_ := Aside0.mk ((by rw [hg]; exact (below_size (by repeat (first | (with_reducible first | exact HB.out | apply below_alloc | apply pw_below_drewN | apply below_drew1 | refine below_set ?_ GE311.out | refine below_set ?_ GE312.out) | exact HB.out))) : w.heap.size ≤ gb313)); have n6_ := Aside0.mk ((by rw [hg]; exact Nat.ne_of_lt (blk_lt (g := gb311) (o := .cells #[.int .i64 a0_0, .int .i64 a0_1] 101 (0, 0)) (by (with_reducible repeat (first | refine blk_drewN ?_ _ | refine blk_drew ?_ | refine blk_alloc ?_ _)); exact BK311.out)) : gb311 ≠ gb313)); have n7_ := Aside0.mk ((by rw [hg]; exact Nat.ne_of_gt (blk_lt (g := gb311) (o := .cells #[.int .i64 a0_0, .int .i64 a0_1] 101 (0, 0)) (by (with_reducible repeat (first | refine blk_drewN ?_ _ | refine blk_drew ?_ | refine blk_alloc ?_ _)); exact BK311.out)) : gb313 ≠ gb311)); have n8_ := Aside0.mk ((by rw [hg]; exact Nat.ne_of_lt (blk_lt (g := gb312) (o := .cells #[.int .i64 a1_0, .int .i64 a1_1] 101 (0, 0)) (by (with_reducible repeat (first | refine blk_drewN ?_ _ | refine blk_drew ?_ | refine blk_alloc ?_ _)); exact BK312.out)) : gb312 ≠ gb313)); have n9_ := Aside0.mk ((by rw [hg]; exact Nat.ne_of_gt (blk_lt (g := gb312) (o := .cells #[.int .i64 a1_0, .int .i64 a1_1] 101 (0, 0)) (by (with_reducible repeat (first | refine blk_drewN ?_ _ | refine blk_drew ?_ | refine blk_alloc ?_ _)); exact BK312.out)) : gb313 ≠ gb312)); clear BK311; clear BK312; clear HB; have BK311 := n0_; have BK312 := n1_; have HB := n2_; have BK313 := n3_; have GW313 := n4_; have GE313 := n5_; have NB311_313 := n6_; have NB313_311 := n7_; have NB312_313 := n8_; have NB313_312 := n9_; clear n0_ n1_ n2_ n3_ n4_ n5_ n6_ n7_ n8_ n9_; clear hb hbox hg))
  have n0_ := Aside0.mk (blk_drew BK311.out)
  have n1_ := Aside0.mk (blk_drew BK312.out)
  have n2_ := Aside0.mk (blk_drew BK313.out)
  have n3_ := Aside0.mk (below_drew1 HB.out)
  clear BK311
  clear BK312
  clear BK313
  clear HB
  have BK311 := n0_
  have BK312 := n1_
  have BK313 := n2_
  have HB := n3_
  clear n0_ n1_ n2_ n3_
  refine start_ (n := 8) (S := fun w' => w'.cell? ⟨gb311, 0, none⟩ = some (.int .i64 a0_0) ∧ w'.cell? ⟨gb311, 1, none⟩ = some (.int .i64 a0_1) ∧ w'.cell? ⟨gb312, 0, none⟩ = some (.int .i64 a1_0) ∧ w'.cell? ⟨gb312, 1, none⟩ = some (.int .i64 a1_1)) (ds := []) #[false, false, false, false, false, false, false, false] (by kernel_rfl) rfl rfl ⟨(blk_cell BK311.out 0).trans rfl, (blk_cell BK311.out 1).trans rfl, (blk_cell BK312.out 0).trans rfl, (blk_cell BK312.out 1).trans rfl⟩ (fun hHeld => ?_); refine with_tabW impl_fraction_over.tab1 impl_fraction_over.bits1 (fun HT_ HW_ => ?_)
  generalize w7.drew = w8 at BK311 BK312 BK313 HB hHeld ⊢
  refine pure_ (i := 1) (N := some 6) (v := ?_) (a' := ?_) #[false, true, false, false, false, false, false, false] rfl rfl (any_of HT_.out (by kernel_rfl)) (fun _ _ _ h => h) (Or.inl ⟨by rfl, ?_⟩) ?_ ?_
  rotate_left
  · intro w'
    go_simp
    with_reducible rfl
  rotate_left
  · simp only [Act.put, List.setIfInBounds_toArray, List.set_cons_zero, List.set_cons_succ, i64_w, i32_w]
    rfl
  refine pure_ (i := 3) (N := some 8) (v := ?_) (a' := ?_) #[false, true, false, true, false, false, false, false] rfl rfl (any_of HT_.out (by kernel_rfl)) (fun _ _ _ h => h) (Or.inl ⟨by rfl, ?_⟩) ?_ ?_
  rotate_left
  · intro w'
    go_simp
    with_reducible rfl
  rotate_left
  · simp only [Act.put, List.setIfInBounds_toArray, List.set_cons_zero, List.set_cons_succ, i64_w, i32_w]
    rfl
  refine take_ (i := 0) (N := some 5) (v := ?_) (a' := ?_) #[true, true, false, true, false, false, false, false] rfl rfl (take_ofW HT_.out HW_.out (by kernel_rfl)) (fun _ _ _ h => h) (Or.inl ⟨by rfl, ?_⟩) hHeld ?_ ?_
  rotate_left
  · rintro w' ⟨s0, s1, s2, s3⟩
    go_simp
    with_reducible rfl
  rotate_left
  · simp only [Act.put, List.setIfInBounds_toArray, List.set_cons_zero, List.set_cons_succ, i64_w, i32_w]
    rfl
  refine take_ (i := 2) (N := some 7) (v := ?_) (a' := ?_) #[true, true, true, true, false, false, false, false] rfl rfl (take_ofW HT_.out HW_.out (by kernel_rfl)) (fun _ _ _ h => h) (Or.inl ⟨by rfl, ?_⟩) hHeld ?_ ?_
  rotate_left
  · rintro w' ⟨s0, s1, s2, s3⟩
    go_simp
    with_reducible rfl
  rotate_left
  · simp only [Act.put, List.setIfInBounds_toArray, List.set_cons_zero, List.set_cons_succ, i64_w, i32_w]
    rfl
  refine take_ (i := 4) (N := some 9) (v := ?_) (a' := ?_) #[true, true, true, true, true, false, false, false] rfl rfl (take_ofW HT_.out HW_.out (by kernel_rfl)) (fun _ _ _ h => h) (Or.inl ⟨by rfl, ?_⟩) hHeld ?_ ?_
  rotate_left
  · rintro w' ⟨s0, s1, s2, s3⟩
    go_simp
    with_reducible rfl
  rotate_left
  · simp only [Act.put, List.setIfInBounds_toArray, List.set_cons_zero, List.set_cons_succ, i64_w, i32_w]
    rfl
  refine one_ (i := 5) (N := some 10) #[true, true, true, true, true, true, false, false] rfl rfl (one_of HT_.out (by kernel_rfl)) (by decide) (fun K hK => ?_)
  refine goes_ Try.func119 (by kernel_rfl) rfl #[.int .i64 a1_1, .int .i64 a1_0] (by rfl) rfl rfl (by (try simp only [List.map_toArray, List.map_cons, List.map_nil]); first | done | rfl | (simp only [List.length_drop, List.length_take]; rfl)) ?_
  with_reducible refine (impl_fractionOf.calls k a1_1 a1_0 t314 t315 _ A3.out).mono ?_
  rintro e w9 ⟨rfl, hb⟩
  refine ⟨_, rfl, ?_⟩
  have n0_ := Aside0.mk (blk_below (g := gb311) (o := .cells #[.int .i64 a0_0, .int .i64 a0_1] 101 (0, 0)) (by (with_reducible repeat (first | refine blk_drewN ?_ _ | refine blk_drew ?_ | refine blk_alloc ?_ _)); exact BK311.out) hb)
  have n1_ := Aside0.mk (blk_below (g := gb312) (o := .cells #[.int .i64 a1_0, .int .i64 a1_1] 101 (0, 0)) (by (with_reducible repeat (first | refine blk_drewN ?_ _ | refine blk_drew ?_ | refine blk_alloc ?_ _)); exact BK312.out) hb)
  have n2_ := Aside0.mk (blk_below (g := gb313) (o := .cells #[.int .i64 0, .int .i64 0] 101 (0, 0)) (by (with_reducible repeat (first | refine blk_drewN ?_ _ | refine blk_drew ?_ | refine blk_alloc ?_ _)); exact BK313.out) hb)
  have n3_ := Aside0.mk (below_step (by repeat (first | (with_reducible first | exact HB.out | apply below_alloc | apply pw_below_drewN | apply below_drew1 | refine below_set ?_ GE311.out | refine below_set ?_ GE312.out | refine below_set ?_ GE313.out) | exact HB.out)) hb)
  clear BK311
  clear BK312
  clear BK313
  clear HB
  have BK311 := n0_
  have BK312 := n1_
  have BK313 := n2_
  have HB := n3_
  clear n0_ n1_ n2_ n3_
  (try clear hb)
  (try clear hb2)
  (try clear hk)
  (try clear hi)
  refine hK.out _ _ ⟨(blk_cell BK311.out 0).trans rfl, (blk_cell BK311.out 1).trans rfl, (blk_cell BK312.out 0).trans rfl, (blk_cell BK312.out 1).trans rfl⟩ (fun hHeld => ?_)
  clear hK K
  refine norm_ (a' := ?_) ?_ ?_
  rotate_left
  · show Act.put _ (some 10) _ = _
    simp only [Act.put, List.setIfInBounds_toArray, List.set_cons_zero, List.set_cons_succ, i64_w, i32_w]
    rfl
  refine one_ (i := 6) (N := some 11) #[true, true, true, true, true, true, true, false] rfl rfl (one_of HT_.out (by kernel_rfl)) (by decide) (fun K hK => ?_)
  refine goes_ Try.func166 (by kernel_rfl) rfl #[.agg #[.int .i64 a0_0, .int .i64 a0_1], .agg #[.int .i64 t314, .int .i64 t315]] (by rfl) rfl rfl (by (try simp only [List.map_toArray, List.map_cons, List.map_nil]); first | done | rfl | (simp only [List.length_drop, List.length_take]; rfl)) ?_
  with_reducible refine (impl_fraction_times.calls k a0_0 a0_1 t314 t315 t316 t317 _ A4.out).mono ?_
  rintro e w10 ⟨rfl, hb⟩
  refine ⟨_, rfl, ?_⟩
  have n0_ := Aside0.mk (blk_below (g := gb311) (o := .cells #[.int .i64 a0_0, .int .i64 a0_1] 101 (0, 0)) (by (with_reducible repeat (first | refine blk_drewN ?_ _ | refine blk_drew ?_ | refine blk_alloc ?_ _)); exact BK311.out) hb)
  have n1_ := Aside0.mk (blk_below (g := gb312) (o := .cells #[.int .i64 a1_0, .int .i64 a1_1] 101 (0, 0)) (by (with_reducible repeat (first | refine blk_drewN ?_ _ | refine blk_drew ?_ | refine blk_alloc ?_ _)); exact BK312.out) hb)
  have n2_ := Aside0.mk (blk_below (g := gb313) (o := .cells #[.int .i64 0, .int .i64 0] 101 (0, 0)) (by (with_reducible repeat (first | refine blk_drewN ?_ _ | refine blk_drew ?_ | refine blk_alloc ?_ _)); exact BK313.out) hb)
  have n3_ := Aside0.mk (below_step (by repeat (first | (with_reducible first | exact HB.out | apply below_alloc | apply pw_below_drewN | apply below_drew1 | refine below_set ?_ GE311.out | refine below_set ?_ GE312.out | refine below_set ?_ GE313.out) | exact HB.out)) hb)
  clear BK311
  clear BK312
  clear BK313
  clear HB
  have BK311 := n0_
  have BK312 := n1_
  have BK313 := n2_
  have HB := n3_
  clear n0_ n1_ n2_ n3_
  (try clear hb)
  (try clear hb2)
  (try clear hk)
  (try clear hi)
  refine hK.out _ _ ⟨(blk_cell BK311.out 0).trans rfl, (blk_cell BK311.out 1).trans rfl, (blk_cell BK312.out 0).trans rfl, (blk_cell BK312.out 1).trans rfl⟩ (fun hHeld => ?_)
  clear hK K
  refine norm_ (a' := ?_) ?_ ?_
  rotate_left
  · show Act.put _ (some 11) _ = _
    simp only [Act.put, List.setIfInBounds_toArray, List.set_cons_zero, List.set_cons_succ, i64_w, i32_w]
    rfl
  refine one_ (i := 7) (N := none) #[true, true, true, true, true, true, true, true] rfl rfl (one_of HT_.out (by kernel_rfl)) (by decide) (fun K hK => ?_)
  have hs11 : w10.cell? ⟨gb313, 0, none⟩ = some (.int .i64 0) := (blk_cell BK313.out 0).trans rfl
  have hfs11 := blk_frozen BK313.out 0
  have hns11_0 := NB311_313.out
  have hns11_1 := NB312_313.out
  have hms11_0 := NB313_311.out
  have hms11_1 := NB313_312.out
  have hs12 : w10.cell? ⟨gb313, 1, none⟩ = some (.int .i64 0) := (blk_cell BK313.out 1).trans rfl
  have hfs12 := blk_frozen BK313.out 1
  have hns12_0 := NB311_313.out
  have hns12_1 := NB312_313.out
  have hms12_0 := NB313_311.out
  have hms12_1 := NB313_312.out
  refine skip_ (w1 := ?_) (by rfl) rfl ?_ ?_
  rotate_left
  · go_simp
    rfl
  refine hK.out _ _ ⟨((cell_far (p := ⟨gb313, _, none⟩) NB311_313.out _).trans (((cell_far (p := ⟨gb313, _, none⟩) NB311_313.out _).trans (hHeld.1)))), ((cell_far (p := ⟨gb313, _, none⟩) NB311_313.out _).trans (((cell_far (p := ⟨gb313, _, none⟩) NB311_313.out _).trans (hHeld.2.1)))), ((cell_far (p := ⟨gb313, _, none⟩) NB312_313.out _).trans (((cell_far (p := ⟨gb313, _, none⟩) NB312_313.out _).trans (hHeld.2.2.1)))), ((cell_far (p := ⟨gb313, _, none⟩) NB312_313.out _).trans (((cell_far (p := ⟨gb313, _, none⟩) NB312_313.out _).trans (hHeld.2.2.2))))⟩ (fun hHeld => ?_)
  clear hK K
  refine done_ (done_of HT_.out (by kernel_rfl)) ?_
  try go_wp2
  refine bodyPost_ret (results_cell_row rfl _ _ gb313 101 #[.int .i64 t316, .int .i64 t317] (0, 0) _ rfl (by (with_reducible repeat (first | refine blk_drewN ?_ _ | refine blk_drew ?_ | refine blk_alloc ?_ _)); refine blk_put (cs := #[.int .i64 t316, .int .i64 0]) ?_ 1 _ rfl; (with_reducible repeat (first | refine blk_drewN ?_ _ | refine blk_drew ?_ | refine blk_alloc ?_ _)); refine blk_put (cs := #[.int .i64 0, .int .i64 0]) ?_ 0 _ rfl; (with_reducible repeat (first | refine blk_drewN ?_ _ | refine blk_drew ?_ | refine blk_alloc ?_ _)); exact BK313.out) Try.underlying101 rfl (by kernel_rfl)) rfl ?_
  exact ⟨by first | rfl | (simp [errW_none, errW_some] <;> rfl) | (simp [*, errW_none, errW_some] <;> rfl), by repeat (first | (with_reducible first | exact HB.out | apply below_alloc | apply pw_below_drewN | apply below_drew1 | refine below_set ?_ GE311.out | refine below_set ?_ GE312.out | refine below_set ?_ GE313.out) | exact HB.out)⟩
end Go.Proofs.Ytnoejflancomaaa.P
end

section
namespace Go.Proofs.Ytnoejflancomaaa.P
set_option linter.unusedVariables false
set_option linter.unusedSimpArgs false
open Go.RowKit Go.Proofs.YtnoejflancomaaaW.PrintWords Go.Proofs.YtnoejflancomaaaW.PrintLast Go.Proofs.YtnoejflancomaaaW.PrintMore
attribute [local go_sem] max2_int min2_int max_two min_two max_three min_three max_four min_four
abbrev frV (x : Int × Int) : Value := .agg #[.int .i64 x.1, .int .i64 x.2]
def twL (s f : Int) : List Value := (List.range (s.toNat + 1)).flatMap fun a : Nat => (List.range (s.toNat + 1)).map fun b : Nat => tw s f (a : Int) (b : Int)
def twF (ru : Nat) (s f : Int) (k v : Value) : Prop := ∃ a b : Int, 0 ≤ a ∧ a ≤ s ∧ 0 ≤ b ∧ b ≤ s ∧ k = tw s f a b ∧ v = frV (mT ru s f a b)
def pk (ru : Nat) (a b : Int) (X Y : Int × Int) : Option Int :=
  match ru with
  | 0 => (impl_fraction_compare.f 99 Y.1 Y.2 X.1 X.2).map fun c => if c < 0 then 1 else 0
  | 1 => (impl_fraction_compare.f 99 Y.1 Y.2 X.1 X.2).map fun c => if 0 < c then 1 else 0
  | 2 => some (if b ≤ a then 0 else 1)
  | _ => some (if b ≤ a then 1 else 0)
def tk (ru : Nat) (s f a b x : Int) : Option Int :=
  if a + x ≤ s then (if b + x ≤ s then pk ru a b (mT ru s f (a + x) b) (mT ru s f a (b + x)) else some 0) else (if b + x ≤ s then some 1 else some (-1))
def sm (ru : Nat) (s f a b : Int) : Nat → Int → Int × Int → Int → Option ((Int × Int) × Int)
  | 0, _, q, m => some (q, m)
  | n + 1, x, q, m => (tk ru s f a b x).bind fun t =>
    if 0 ≤ t then
      (let y := mT ru s f (if t = 0 then a + x else a) (if t = 0 then b else b + x)
       (impl_fraction_plus.f 99 q.1 q.2 y.1 y.2).bind fun r => sm ru s f a b n (x + 1) r (m + 1))
    else sm ru s f a b n (x + 1) q m
def stO (ru : Nat) (s f a b : Int) : Option (Int × Int) :=
  if a = s ∧ b = s then some (0, 1) else (sm ru s f a b f.toNat 1 (f, 1) 0).bind fun r => impl_fraction_over.f 99 r.1.1 r.1.2 r.2 1
abbrev chO : Value := .func (.func 78) #[] #[]
structure Sw (ru : Nat) (s f a b : Int) (ch : Value) (B : Nat) (w W : World) : Prop where
  map : memo Try.prog 87 (twF ru s f) (twL s f) B W
  bx : Bx w.heap.size B w W
  k0 : W.heap[w.heap.size]? = some (.cells #[ch, .map (some B)] 95 (0, 0))
  k1 : W.heap[w.heap.size + 1]? = some (.cells #[.int .i64 s, .int .i64 f, .int .i64 a, .int .i64 b] 87 (0, 0))
  lt : B < w.heap.size
section
variable {ru : Nat} {s f a b : Int} {ch : Value} {B : Nat} {w W W' : World}
theorem Sw.drew (h : Sw ru s f a b ch B w W) : Sw ru s f a b ch B w W.drew := ⟨h.map, bx_drew h.bx, h.k0, h.k1, h.lt⟩
theorem Sw.drewN (h : Sw ru s f a b ch B w W) (n : Nat) : Sw ru s f a b ch B w (W.drewN n) := ⟨h.map, bx_drewN h.bx n, h.k0, h.k1, h.lt⟩
theorem Sw.below (h : Sw ru s f a b ch B w W) (hb : Below W.heap.size W W') : Sw ru s f a b ch B w W' := ⟨h.map.below hb, h.bx.andB hb, blk_below h.k0 hb, blk_below h.k1 hb, h.lt⟩
theorem Sw.set (h : Sw ru s f a b ch B w W) {g : Nat} (hg : w.heap.size + 2 ≤ g) (i : Nat) (u : Value) : Sw ru s f a b ch B w (W.setCell ⟨g, i, none⟩ u) :=
  have hl := h.lt
  ⟨h.map.set (fun e => by have e : g = B := e; omega) u, bx_set h.bx (show w.heap.size ≤ g by omega) u, (Below.heap_setCell _ _ _ _ (show w.heap.size ≠ g by omega)).trans h.k0, (Below.heap_setCell _ _ _ _ (show w.heap.size + 1 ≠ g by omega)).trans h.k1, h.lt⟩
theorem Sw.alloc (h : Sw ru s f a b ch B w W) (o : Obj) : Sw ru s f a b ch B w (W.alloc o) := h.below ((Below.refl _ _).alloc (Nat.le_refl _) o)
theorem Sw.mean (h : Sw ru s f a b ch B w W) (hm : memo Try.prog 87 (twF ru s f) (twL s f) B W') (hb : Bx W.heap.size B W W') : Sw ru s f a b ch B w W' :=
  ⟨hm, h.bx.next hb, blk_bx h.k0 hb (by have := h.lt; omega), blk_bx h.k1 hb (by have := h.lt; omega), h.lt⟩
abbrev Sv (ru : Nat) (s f a b : Int) (ch : Value) (B : Nat) (w W : World) : Prop :=
  Aside0 (Sw ru s f a b ch B w W) ∧ W.cell? ⟨w.heap.size, 0, none⟩ = some ch ∧ W.cell? ⟨w.heap.size, 1, none⟩ = some (.map (some B)) ∧ W.cell? ⟨w.heap.size + 1, 0, none⟩ = some (.int .i64 s) ∧ W.cell? ⟨w.heap.size + 1, 1, none⟩ = some (.int .i64 f) ∧
    W.cell? ⟨w.heap.size + 1, 2, none⟩ = some (.int .i64 a) ∧ W.cell? ⟨w.heap.size + 1, 3, none⟩ = some (.int .i64 b)
theorem Sw.all (h : Sw ru s f a b ch B w W) : Sv ru s f a b ch B w W :=
  ⟨⟨h⟩, (blk_cell h.k0 0).trans rfl, (blk_cell h.k0 1).trans rfl, (blk_cell h.k1 0).trans rfl, (blk_cell h.k1 1).trans rfl, (blk_cell h.k1 2).trans rfl, (blk_cell h.k1 3).trans rfl⟩
end
theorem twins_moved0 (s f a b x : Int) (h1 : -9223372036854775808 ≤ a + x) (h2 : a + x ≤ 9223372036854775807) (h3 : -9223372036854775808 ≤ b + x) (h4 : b + x ≤ 9223372036854775807) (w : World) :
    Calls Try.prog 95 #[tw s f a b, .int .i64 0, .int .i64 x] w fun e w' => e = .returned (tw s f (a + x) b) ∧ Below w.heap.size w w' := by
  have h := twins_moved s f a b x 0 (Or.inl rfl) h1 h2 h3 h4 w
  rwa [if_pos rfl, if_pos rfl] at h
theorem twins_moved1 (s f a b x : Int) (h1 : -9223372036854775808 ≤ a + x) (h2 : a + x ≤ 9223372036854775807) (h3 : -9223372036854775808 ≤ b + x) (h4 : b + x ≤ 9223372036854775807) (w : World) :
    Calls Try.prog 95 #[tw s f a b, .int .i64 1, .int .i64 x] w fun e w' => e = .returned (tw s f a (b + x)) ∧ Below w.heap.size w w' := by
  have h := twins_moved s f a b x 1 (Or.inr rfl) h1 h2 h3 h4 w
  rwa [if_neg (by decide), if_neg (by decide)] at h
set_option maxHeartbeats 4000000 in
set_option maxRecDepth 100000 in
theorem choice_0 (s f : Int) (B : Nat) (a b x : Int) (tok : Int) (w : World) (hs : 1 ≤ s ∧ s ≤ 6) (hf : 1 ≤ f ∧ f ≤ 4) (ha : 0 ≤ a ∧ a ≤ s) (hb : 0 ≤ b ∧ b ≤ s) (hx : 1 ≤ x ∧ x ≤ f)
    (hm : memo Try.prog 87 (twF 0 s f) (twL s f) B w) (ht : tk 0 s f a b x = some tok)
    (ih : ∀ (a' b' : Int) (w : World), 0 ≤ a' ∧ a' ≤ s → 0 ≤ b' ∧ b' ≤ s → a' + b' > a + b → memo Try.prog 87 (twF 0 s f) (twL s f) B w →
      Calls Try.prog 94 #[.agg #[chO, .map (some B)], tw s f a' b'] w fun e w' => e = .returned (frV (mT 0 s f a' b')) ∧ memo Try.prog 87 (twF 0 s f) (twL s f) B w' ∧ Bx w.heap.size B w w') :
    Calls Try.prog 79 #[.agg #[chO, .map (some B)], tw s f a b, .int .i64 x] w fun e w' => e = .returned (.int .i64 tok) ∧ memo Try.prog 87 (twF 0 s f) (twL s f) B w' ∧ Bx w.heap.size B w w' := by
  have HM := Aside0.mk ((hm.alloc (.cells #[chO, .map (some B)] 95)).alloc (.cells #[.int .i64 s, .int .i64 f, .int .i64 a, .int .i64 b] 87))
  have HB := Aside0.mk (below_alloc (below_alloc (Below.refl w.heap.size w) (.cells #[chO, .map (some B)] 95)) (.cells #[.int .i64 s, .int .i64 f, .int .i64 a, .int .i64 b] 87))
  have HG := Aside0.mk (blk_alloc (blk_new w (.cells #[chO, .map (some B)] 95)) (.cells #[.int .i64 s, .int .i64 f, .int .i64 a, .int .i64 b] 87))
  have HT := Aside0.mk (by have h := blk_new (w.alloc (.cells #[chO, .map (some B)] 95)) (.cells #[.int .i64 s, .int .i64 f, .int .i64 a, .int .i64 b] 87); rw [World.size_alloc] at h; exact h : ((w.alloc (.cells #[chO, .map (some B)] 95)).alloc (.cells #[.int .i64 s, .int .i64 f, .int .i64 a, .int .i64 b] 87)).heap[w.heap.size + 1]? = some (.cells #[.int .i64 s, .int .i64 f, .int .i64 a, .int .i64 b] 87 (0, 0)))
  have IH := Aside0.mk ih
  have hsc := @store_func Try.prog (.func 78) #[] #[]
  have hlt := hm.lt
  clear ih hm
  unfold tk at ht
  go_enter Try.func79, Try.ntmps79
  by_cases c1 : a + x ≤ s
  · by_cases c2 : b + x ≤ s
    · rw [if_pos c1, if_pos c2] at ht
      go_wp2_with (go_at_call 93; go_loud (refine (twins_moves s f a b x (by omega) (by omega) (by omega) (by omega) _).mono ?_; rintro e w1 ⟨v, rfl, ho, hb1⟩; obtain ⟨A, cp, rfl, hcp, hC⟩ := Kd.R_reads ho; have hl : mvs s a b x 2 = [0, 1] := (by simp [mvs, c1, c2]); simp only [hl] at hC ⊢; simp only [List.length_cons, List.length_nil, Nat.zero_add, Nat.reduceAdd] at hC ⊢; clear ho hl; have n0_ := Aside0.mk (HM.out.below hb1); have n1_ := Aside0.mk (blk_below HG.out hb1); have n2_ := Aside0.mk (blk_below HT.out hb1); have n3_ := Aside0.mk (bT HB.out hb1); have HC := Aside0.mk hC; clear hC HM HG HT HB hb1; have HM := n0_; have HG := n1_; have HT := n2_; have HB := n3_; clear n0_ n1_ n2_ n3_))
      obtain ⟨c, hc, htok⟩ := Option.map_eq_some_iff.1 ht
      have HW := Aside0.mk (⟨HM.out, bx_of HB.out, HG.out, HT.out, hlt⟩ : Sw 0 s f a b chO B w w1)
      have m1 : -9223372036854775808 ≤ a + x := by omega
      have m2 : a + x ≤ 9223372036854775807 := by omega
      have m3 : -9223372036854775808 ≤ b + x := by omega
      have m4 : b + x ≤ 9223372036854775807 := by omega
      clear HC
      go_region_held3 (fun W => Sv 0 s f a b chO B w W) (first | exact HW.out.drew.all | exact (HW.out.drew.below hb9).all | exact ((HW.out.drew.below hb9).mean hm10 hb10).all | exact (((HW.out.drew.below hb9).mean hm10 hb10).below hb11).all | exact ((((HW.out.drew.below hb9).mean hm10 hb10).below hb11).mean hm12 hb12).all | exact (((((HW.out.drew.below hb9).mean hm10 hb10).below hb11).mean hm12 hb12).below hb13).all) (first
        | (go_at_call 95; (with_reducible refine (twins_moved0 s f a b x m1 m2 m3 m4 _).mono ?_); rintro e w9 ⟨rfl, hb9⟩)
        | (go_at_call 95; (with_reducible refine (twins_moved1 s f a b x m1 m2 m3 m4 _).mono ?_); rintro e w11 ⟨rfl, hb11⟩)
        | (go_at_call 94; (with_reducible refine (IH.out (a + x) b _ ⟨by omega, c1⟩ hb (by omega) (HW.out.drew.below hb9).map).mono ?_); rintro e w10 ⟨rfl, hm10, hb10⟩)
        | (go_at_call 94; (with_reducible refine (IH.out a (b + x) _ ha ⟨by omega, c2⟩ (by omega) (((HW.out.drew.below hb9).mean hm10 hb10).below hb11).map).mono ?_); rintro e w12 ⟨rfl, hm12, hb12⟩)
        | (go_at_call 78; (with_reducible refine (least_calls s f a b _ _ _ _ 99 c hc _).mono ?_); rintro e w13 ⟨rfl, hb13⟩))
      have HE := (((((HW.out.drew.below hb9).mean hm10 hb10).below hb11).mean hm12 hb12).below hb13)
      go_wp2
      go_ret
      exact ⟨by first | rfl | rw [htok], HE.map, HE.bx⟩
    · rw [if_pos c1, if_neg c2] at ht
      obtain rfl := Option.some.inj ht
      go_wp2_with (go_at_call 93; refine (twins_moves s f a b x (by omega) (by omega) (by omega) (by omega) _).mono ?_; rintro e w1 ⟨v, rfl, ho, hb1⟩; have hl : mvs s a b x 2 = [0] := (by simp [mvs, c1, c2]); rw [hl] at ho; obtain ⟨g1, cp, rfl, _, _, _⟩ := Kd.R_form ho (by decide); have h0 : w1.cell? ⟨g1, 0, none⟩ = some (.int .i64 0) := (by obtain ⟨ad, e, h0⟩ := Kd.at_int (Kd.R_reads' ho).2.2 0 (by decide) (by decide); obtain rfl : (⟨g1, 0, none⟩ : Addr) = ad := Option.some.inj e; exact h0); simp only [List.length_cons, List.length_nil, Nat.zero_add]; clear ho hl; have n0_ := Aside0.mk (HM.out.below hb1); have n3_ := Aside0.mk (bT HB.out hb1); clear HM HB hb1; have HM := n0_; have HB := n3_; clear n0_ n3_)
      go_ret
      exact ⟨rfl, HM.out, bx_of HB.out⟩
  · by_cases c2 : b + x ≤ s
    · rw [if_neg c1, if_pos c2] at ht
      obtain rfl := Option.some.inj ht
      go_wp2_with (go_at_call 93; refine (twins_moves s f a b x (by omega) (by omega) (by omega) (by omega) _).mono ?_; rintro e w1 ⟨v, rfl, ho, hb1⟩; have hl : mvs s a b x 2 = [1] := (by simp [mvs, c1, c2]); rw [hl] at ho; obtain ⟨g1, cp, rfl, _, _, _⟩ := Kd.R_form ho (by decide); have h0 : w1.cell? ⟨g1, 0, none⟩ = some (.int .i64 1) := (by obtain ⟨ad, e, h0⟩ := Kd.at_int (Kd.R_reads' ho).2.2 0 (by decide) (by decide); obtain rfl : (⟨g1, 0, none⟩ : Addr) = ad := Option.some.inj e; exact h0); simp only [List.length_cons, List.length_nil, Nat.zero_add]; clear ho hl; have n0_ := Aside0.mk (HM.out.below hb1); have n3_ := Aside0.mk (bT HB.out hb1); clear HM HB hb1; have HM := n0_; have HB := n3_; clear n0_ n3_)
      go_ret
      exact ⟨rfl, HM.out, bx_of HB.out⟩
    · rw [if_neg c1, if_neg c2] at ht
      obtain rfl := Option.some.inj ht
      go_wp2_with (go_at_call 93; refine (twins_moves s f a b x (by omega) (by omega) (by omega) (by omega) _).mono ?_; rintro e w1 ⟨v, rfl, ho, hb1⟩; have hl : mvs s a b x 2 = [] := (by simp [mvs, c1, c2]); rw [hl] at ho; obtain ⟨A, cp, rfl, hcp, hC⟩ := Kd.R_reads ho; simp only [List.length_nil]; clear hC; clear ho hl; have n0_ := Aside0.mk (HM.out.below hb1); have n3_ := Aside0.mk (bT HB.out hb1); clear HM HB hb1; have HM := n0_; have HB := n3_; clear n0_ n3_)
      go_ret
      exact ⟨rfl, HM.out, bx_of HB.out⟩
end Go.Proofs.Ytnoejflancomaaa.P
end

section
namespace Go.Proofs.Ytnoejflancomaaa.P
set_option linter.unusedVariables false
set_option linter.unusedSimpArgs false
open Go.RowKit Go.Proofs.YtnoejflancomaaaW.PrintWords Go.Proofs.YtnoejflancomaaaW.PrintLast Go.Proofs.YtnoejflancomaaaW.PrintMore
attribute [local go_sem] max2_int min2_int max_two min_two max_three min_three max_four min_four
theorem pk_cases {ru : Nat} {a b : Int} {X Y : Int × Int} {t : Int} (h : pk ru a b X Y = some t) : t = 0 ∨ t = 1 := by
  unfold pk at h
  split at h
  · obtain ⟨c, _, rfl⟩ := Option.map_eq_some_iff.1 h
    by_cases hc : c < 0 <;> simp [hc]
  · obtain ⟨c, _, rfl⟩ := Option.map_eq_some_iff.1 h
    by_cases hc : 0 < c <;> simp [hc]
  · by_cases hc : b ≤ a <;> simp [hc] at h <;> omega
  · by_cases hc : b ≤ a <;> simp [hc] at h <;> omega
theorem tk_cases {ru : Nat} {s f a b x t : Int} (h : tk ru s f a b x = some t) : t = -1 ∨ (t = 0 ∧ a + x ≤ s) ∨ (t = 1 ∧ b + x ≤ s) := by
  unfold tk at h
  by_cases c1 : a + x ≤ s
  · by_cases c2 : b + x ≤ s
    · rw [if_pos c1, if_pos c2] at h
      rcases pk_cases h with rfl | rfl
      · exact Or.inr (Or.inl ⟨rfl, c1⟩)
      · exact Or.inr (Or.inr ⟨rfl, c2⟩)
    · rw [if_pos c1, if_neg c2] at h
      exact Or.inr (Or.inl ⟨(Option.some.inj h).symm, c1⟩)
  · by_cases c2 : b + x ≤ s
    · rw [if_neg c1, if_pos c2] at h
      exact Or.inr (Or.inr ⟨(Option.some.inj h).symm, c2⟩)
    · rw [if_neg c1, if_neg c2] at h
      exact Or.inl (Option.some.inj h).symm
theorem twL_mem {s f a b : Int} (ha : 0 ≤ a ∧ a ≤ s) (hb : 0 ≤ b ∧ b ≤ s) : tw s f a b ∈ twL s f := by
  unfold twL
  rw [List.mem_flatMap]
  refine ⟨a.toNat, List.mem_range.2 (by omega), List.mem_map.2 ⟨b.toNat, List.mem_range.2 (by omega), ?_⟩⟩
  have e1 : (a.toNat : Int) = a := by omega
  have e2 : (b.toNat : Int) = b := by omega
  simp only [e1, e2]
theorem twL_len {s f : Int} (hs : 1 ≤ s ∧ s ≤ 6) : (twL s f).length < maxLen := by
  have h : s.toNat ≤ 6 := by omega
  have e : (twL s f).length = (s.toNat + 1) * (s.toNat + 1) := by simp [twL, List.length_flatMap, List.map_const', List.sum_replicate_nat]
  rw [e]
  have := Nat.mul_le_mul (show s.toNat + 1 ≤ 7 by omega) (show s.toNat + 1 ≤ 7 by omega)
  unfold maxLen
  omega
theorem twF_val {ru : Nat} {s f a b : Int} {v : Value} (h : twF ru s f (tw s f a b) v) : v = frV (mT ru s f a b) := by
  obtain ⟨a', b', _, _, _, _, e, rfl⟩ := h
  simp only [Value.agg.injEq, Array.mk.injEq, List.cons.injEq, Value.int.injEq, true_and, and_true] at e
  obtain ⟨rfl, rfl⟩ := e
  rfl
set_option maxHeartbeats 8000000 in
set_option maxRecDepth 100000 in
theorem mean_step_0 (s f : Int) (B : Nat) (a b : Int) (w : World) (hs : 1 ≤ s ∧ s ≤ 6) (hf : 1 ≤ f ∧ f ≤ 4) (ha : 0 ≤ a ∧ a ≤ s) (hb : 0 ≤ b ∧ b ≤ s)
    (hm : memo Try.prog 87 (twF 0 s f) (twL s f) B w) (hst : stO 0 s f a b = some (mT 0 s f a b))
    (ih : ∀ (a' b' : Int) (w : World), 0 ≤ a' ∧ a' ≤ s → 0 ≤ b' ∧ b' ≤ s → a' + b' > a + b → memo Try.prog 87 (twF 0 s f) (twL s f) B w →
      Calls Try.prog 94 #[.agg #[chO, .map (some B)], tw s f a' b'] w fun e w' => e = .returned (frV (mT 0 s f a' b')) ∧ memo Try.prog 87 (twF 0 s f) (twL s f) B w' ∧ Bx w.heap.size B w w') :
    Calls Try.prog 94 #[.agg #[chO, .map (some B)], tw s f a b] w fun e w' => e = .returned (frV (mT 0 s f a b)) ∧ memo Try.prog 87 (twF 0 s f) (twL s f) B w' ∧ Bx w.heap.size B w w' := by
  have hlt := hm.lt
  have HT := Aside0.mk hst
  clear hst
  have IH := Aside0.mk ih
  have hsc := @store_func Try.prog (.func 78) #[] #[]
  have HW := Aside0.mk (⟨((hm.alloc (.cells #[chO, .map (some B)] 95)).alloc (.cells #[.int .i64 s, .int .i64 f, .int .i64 a, .int .i64 b] 87)).alloc (.cells #[.int .i64 0, .int .i64 0] 101),
    bx_of (below_alloc (below_alloc (below_alloc (Below.refl w.heap.size w) _) _) _), blk_alloc (blk_alloc (blk_new w _) _) _,
    blk_alloc (by have h := blk_new (w.alloc (.cells #[chO, .map (some B)] 95)) (.cells #[.int .i64 s, .int .i64 f, .int .i64 a, .int .i64 b] 87); rw [World.size_alloc] at h; exact h) _, hlt⟩ :
    Sw 0 s f a b chO B w (((w.alloc (.cells #[chO, .map (some B)] 95)).alloc (.cells #[.int .i64 s, .int .i64 f, .int .i64 a, .int .i64 b] 87)).alloc (.cells #[.int .i64 0, .int .i64 0] 101)))
  have HR := Aside0.mk (by have h := blk_new ((w.alloc (.cells #[chO, .map (some B)] 95)).alloc (.cells #[.int .i64 s, .int .i64 f, .int .i64 a, .int .i64 b] 87)) (.cells #[.int .i64 0, .int .i64 0] 101); rw [World.size_alloc, World.size_alloc] at h; exact h :
    (((w.alloc (.cells #[chO, .map (some B)] 95)).alloc (.cells #[.int .i64 s, .int .i64 f, .int .i64 a, .int .i64 b] 87)).alloc (.cells #[.int .i64 0, .int .i64 0] 101)).heap[w.heap.size + 1 + 1]? = some (.cells #[.int .i64 0, .int .i64 0] 101 (0, 0)))
  clear ih hm
  go_enter Try.func94, Try.ntmps94
  by_cases hd : a = s ∧ b = s
  · have hd1 : (decide (a = s) && decide (b = s)) = true := by simp [hd]
    have hv : mT 0 s f a b = (0, 1) := by
      have hst := HT.out
      unfold stO at hst
      rw [if_pos hd] at hst
      exact (Option.some.inj hst).symm
    have HV := Aside0.mk hv
    clear hv
    clear hd
    go_wp2_with (go_at_call 150; refine (twins_isDone s f a b _).mono ?_; rintro e w4 ⟨rfl, hb4⟩; have n0_ := Aside0.mk (HW.out.below hb4); have n1_ := Aside0.mk (blk_below HR.out hb4); clear HW HR hb4; have HW := n0_; have HR := n1_; clear n0_ n1_; have y0 := (blk_cell HR.out 0).trans rfl; have y1 := (blk_cell HR.out 1).trans rfl; have z0 := blk_frozen HR.out 0; have z1 := blk_frozen HR.out 1)
    refine bodyPost_ret (results_cell_row rfl _ _ (w.heap.size + 1 + 1) 101 #[.int .i64 0, .int .i64 1] (0, 0) _ rfl (blk_put (blk_put HR.out 0 (.int .i64 0) rfl) 1 (.int .i64 1) rfl) Try.underlying101 rfl (by kernel_rfl)) rfl ?_
    have HE := (HW.out.set (show w.heap.size + 2 ≤ w.heap.size + 1 + 1 by omega) 0 (.int .i64 0)).set (show w.heap.size + 2 ≤ w.heap.size + 1 + 1 by omega) 1 (.int .i64 1)
    exact ⟨by rw [HV.out], HE.map, HE.bx⟩
  · have hd1 : (decide (a = s) && decide (b = s)) = false := by simp only [Bool.and_eq_false_iff, decide_eq_false_iff_not]; omega
    obtain ⟨kl, hkl⟩ := tw_key s f a b (WalkArith.wf_i64 (by omega)) (WalkArith.wf_i64 (by omega)) (WalkArith.wf_i64 (by omega)) (WalkArith.wf_i64 (by omega))
    have zE : ∀ w : World, (zeroValue 101).run Try.prog w = .ok (.agg #[.int .i64 0, .int .i64 0]) w := fun w => by kernel_rfl
    have HD := Aside0.mk hd
    have HZ := Aside0.mk zE
    have HK := Aside0.mk hkl
    clear hd zE hkl
    go_wp2_with (first
      | (go_at_call 150; refine (twins_isDone s f a b _).mono ?_; rintro e w4 ⟨rfl, hb4⟩; have n0_ := Aside0.mk (HW.out.below hb4); have n1_ := Aside0.mk (blk_below HR.out hb4); clear HW HR hb4; have HW := n0_; have HR := n1_; clear n0_ n1_; have SV := HW.out.all; have x0 := SV.2.1; have x1 := SV.2.2.1; have x2 := SV.2.2.2.1; have x3 := SV.2.2.2.2.1; have x4 := SV.2.2.2.2.2.1; have x5 := SV.2.2.2.2.2.2; clear SV)
      | (at_lookup; have SV := (HW.out.alloc (.cells #[.int .i64 0, .int .i64 0] 101)).all; have xa0 := SV.2.1; have xa1 := SV.2.2.1; have xa2 := SV.2.2.2.1; have xa3 := SV.2.2.2.2.1; have xa4 := SV.2.2.2.2.2.1; have xa5 := SV.2.2.2.2.2.2; clear SV; have SV := (HW.out.alloc (.cells #[.int .i64 (mT 0 s f a b).1, .int .i64 (mT 0 s f a b).2] 101)).all; have xb0 := SV.2.1; have xb1 := SV.2.2.1; have xb2 := SV.2.2.2.1; have xb3 := SV.2.2.2.2.1; have xb4 := SV.2.2.2.2.2.1; have xb5 := SV.2.2.2.2.2.2; clear SV; have SV := ((HW.out.alloc (.cells #[.int .i64 0, .int .i64 0] 101)).alloc (.cells #[.int .i64 0, .int .i64 0] 101)).all; have xc0 := SV.2.1; have xc1 := SV.2.2.1; have xc2 := SV.2.2.2.1; have xc3 := SV.2.2.2.2.1; have xc4 := SV.2.2.2.2.2.1; have xc5 := SV.2.2.2.2.2.2; clear SV; have SV := ((HW.out.alloc (.cells #[.int .i64 0, .int .i64 0] 101)).alloc (.cells #[.int .i64 f, .int .i64 1] 101)).all; have xd0 := SV.2.1; have xd1 := SV.2.2.1; have xd2 := SV.2.2.2.1; have xd3 := SV.2.2.2.2.1; have xd4 := SV.2.2.2.2.2.1; have xd5 := SV.2.2.2.2.2.2; clear SV; have y0 := (blk_cell (blk_alloc HR.out (.cells #[.int .i64 (mT 0 s f a b).1, .int .i64 (mT 0 s f a b).2] 101)) 0).trans rfl; have y1 := (blk_cell (blk_alloc HR.out (.cells #[.int .i64 (mT 0 s f a b).1, .int .i64 (mT 0 s f a b).2] 101)) 1).trans rfl; have z0 := blk_frozen (blk_alloc HR.out (.cells #[.int .i64 (mT 0 s f a b).1, .int .i64 (mT 0 s f a b).2] 101)) 0; have z1 := blk_frozen (blk_alloc HR.out (.cells #[.int .i64 (mT 0 s f a b).1, .int .i64 (mT 0 s f a b).2] 101)) 1; refine wpList_memo_look _ rfl _ _ 93 rfl 87 101 tw_law Try.underlying93 (HZ.out _) (twF 0 s f) (twL s f) B rfl HW.out.map _ kl rfl HK.out ?_ ?h1; (case h1 => intro v hv; have hv := twF_val hv; subst hv; go_wp2; refine bodyPost_ret (results_cell_row rfl _ _ (w.heap.size + 1 + 1) 101 #[.int .i64 (mT 0 s f a b).1, .int .i64 (mT 0 s f a b).2] (0, 0) _ rfl (blk_put (blk_put (blk_alloc HR.out _) 0 (.int .i64 (mT 0 s f a b).1) rfl) 1 (.int .i64 (mT 0 s f a b).2) rfl) Try.underlying101 rfl (by kernel_rfl)) rfl ?_; have HE := ((HW.out.alloc (.cells #[.int .i64 (mT 0 s f a b).1, .int .i64 (mT 0 s f a b).2] 101)).set (show w.heap.size + 2 ≤ w.heap.size + 1 + 1 by omega) 0 (.int .i64 (mT 0 s f a b).1)).set (show w.heap.size + 2 ≤ w.heap.size + 1 + 1 by omega) 1 (.int .i64 (mT 0 s f a b).2); exact ⟨rfl, HE.map, HE.bx⟩)))
    have hg : w.heap.size + 2 < w4.heap.size := blk_lt HR.out
    have HS := Aside0.mk ((HW.out.alloc (.cells #[.int .i64 0, .int .i64 0] 101)).alloc (.cells #[.int .i64 f, .int .i64 1] 101))
    have HQ := Aside0.mk (by have h := blk_new (w4.alloc (.cells #[.int .i64 0, .int .i64 0] 101)) (.cells #[.int .i64 f, .int .i64 1] 101); rw [World.size_alloc] at h; exact h : ((w4.alloc (.cells #[.int .i64 0, .int .i64 0] 101)).alloc (.cells #[.int .i64 f, .int .i64 1] 101)).heap[w4.heap.size + 1]? = some (.cells #[.int .i64 f, .int .i64 1] 101 (0, 0)))
    have HR := Aside0.mk (blk_alloc (blk_alloc HR.out (.cells #[.int .i64 0, .int .i64 0] 101)) (.cells #[.int .i64 f, .int .i64 1] 101))
    obtain ⟨R, hR, hover⟩ := Option.bind_eq_some_iff.1 (show ((sm 0 s f a b f.toNat 1 (f, 1) 0).bind fun r => impl_fraction_over.f 99 r.1.1 r.1.2 r.2 1) = some (mT 0 s f a b) by have h := HT.out; unfold stO at h; rwa [if_neg HD.out] at h)
    have HO := Aside0.mk hover
    have HA := Aside0.mk hR
    clear hover hR
    go_loopw [8, 9] (fun v8 v9 wr => ∃ (n : Nat) (x m : Int) (q : Int × Int), v8 = .int .i64 m ∧ v9 = .int .i64 x ∧ x + n = f + 1 ∧ 1 ≤ x ∧ 0 ≤ m ∧ m < x ∧ Aside0 (sm 0 s f a b n x q m = some R) ∧ Aside0 (Sw 0 s f a b chO B w wr) ∧ Aside0 (wr.heap[w4.heap.size + 1]? = some (.cells #[.int .i64 q.1, .int .i64 q.2] 101 (0, 0))) ∧ Aside0 (wr.heap[w.heap.size + 1 + 1]? = some (.cells #[.int .i64 0, .int .i64 0] 101 (0, 0)))) (fun _ v _ => (f + 1 - intOf v).toNat)
    case atStart => exact ⟨f.toNat, 1, 0, (f, 1), rfl, rfl, by omega, by omega, by omega, by omega, HA, HS, HQ, HR⟩
    case round =>
      obtain ⟨n, x, m, q, rfl, rfl, hn, hx, hm0, hm1, HA, HS, HQ, HR⟩ := hrel
      have hBl : B < w.heap.size := hlt
      have SV := (HS.out).all
      have xr0 := SV.2.1
      have xr1 := SV.2.2.1
      have xr2 := SV.2.2.2.1
      have xr3 := SV.2.2.2.2.1
      have xr4 := SV.2.2.2.2.2.1
      have xr5 := SV.2.2.2.2.2.2
      clear SV
      have qr0 : wr.cell? ⟨w4.heap.size + 1, 0, none⟩ = some (.int .i64 q.1) := (blk_cell HQ.out 0).trans rfl
      have qr1 : wr.cell? ⟨w4.heap.size + 1, 1, none⟩ = some (.int .i64 q.2) := (blk_cell HQ.out 1).trans rfl
      by_cases hle : x ≤ f
      · obtain ⟨n', rfl⟩ : ∃ n' : Nat, n = n' + 1 := ⟨n - 1, by omega⟩
        have h := HA.out
        rw [sm] at h
        obtain ⟨t, ht, h⟩ := Option.bind_eq_some_iff.1 h
        have sx : IntKind.i64.wrap (x + 1) = x + 1 := IntWalk.i64_in _ (by omega)
        have sm' : IntKind.i64.wrap (m + 1) = m + 1 := IntWalk.i64_in _ (by omega)
        have m1 : -9223372036854775808 ≤ a + x := by omega
        have m2 : a + x ≤ 9223372036854775807 := by omega
        have m3 : -9223372036854775808 ≤ b + x := by omega
        have m4 : b + x ≤ 9223372036854775807 := by omega
        rcases tk_cases ht with rfl | ⟨rfl, hc⟩ | ⟨rfl, hc⟩
        · rw [if_neg (by decide)] at h
          have HA := Aside0.mk h
          have HT2 := Aside0.mk ht
          clear h ht
          go_wp2_with (go_at_call 79; refine (choice_0 s f B a b x (-1) _ hs hf ha hb ⟨hx, hle⟩ HS.out.map HT2.out IH.out).mono ?_; rintro e w6 ⟨rfl, hm6, hb6⟩; have n0_ := Aside0.mk (HS.out.mean hm6 hb6); have n1_ := Aside0.mk (blk_bx HQ.out hb6 (by omega)); have n2_ := Aside0.mk (blk_bx HR.out hb6 (by omega)); clear HS HQ HR hm6 hb6; have HS := n0_; have HQ := n1_; have HR := n2_; clear n0_ n1_ n2_)
          exact ⟨⟨n', x + 1, m, q, rfl, rfl, by omega, by omega, by omega, by omega, HA, HS, HQ, HR⟩, by simp [intOf]; omega⟩
        · rw [if_pos (by decide)] at h
          simp only [if_true, ite_true] at h
          obtain ⟨r, hr, h⟩ := Option.bind_eq_some_iff.1 h
          have HA := Aside0.mk h
          have HT2 := Aside0.mk ht
          have HP := Aside0.mk hr
          clear h ht hr
          go_wp2_with (go_at_call 79; refine (choice_0 s f B a b x 0 _ hs hf ha hb ⟨hx, hle⟩ HS.out.map HT2.out IH.out).mono ?_; rintro e w6 ⟨rfl, hm6, hb6⟩; have n0_ := Aside0.mk (HS.out.mean hm6 hb6); have n1_ := Aside0.mk (blk_bx HQ.out hb6 (by omega)); have n2_ := Aside0.mk (blk_bx HR.out hb6 (by omega)); clear HS HQ HR hm6 hb6; have HS := n0_; have HQ := n1_; have HR := n2_; clear n0_ n1_ n2_; have q60 : w6.cell? ⟨w4.heap.size + 1, 0, none⟩ = some (.int .i64 q.1) := (blk_cell HQ.out 0).trans rfl; have q61 : w6.cell? ⟨w4.heap.size + 1, 1, none⟩ = some (.int .i64 q.2) := (blk_cell HQ.out 1).trans rfl; have SV := (HS.out).all; have xe0 := SV.2.1; have xe1 := SV.2.2.1; have xe2 := SV.2.2.2.1; have xe3 := SV.2.2.2.2.1; have xe4 := SV.2.2.2.2.2.1; have xe5 := SV.2.2.2.2.2.2; clear SV)
          refine start_ (n := 9) (S := fun W => Sv 0 s f a b chO B w W ∧ W.cell? ⟨w4.heap.size + 1, 0, none⟩ = some (.int .i64 q.1) ∧ W.cell? ⟨w4.heap.size + 1, 1, none⟩ = some (.int .i64 q.2)) (ds := [8]) #[false, false, false, false, false, false, false, false, false] (by kernel_rfl) rfl rfl ⟨HS.out.drew.all, (blk_cell (blk_drew HQ.out) 0).trans rfl, (blk_cell (blk_drew HQ.out) 1).trans rfl⟩ (fun hHeld => ?_)
          refine pure_ (i := 3) (N := some 42) (v := ?_) (a' := ?_) #[false, false, false, true, false, false, false, false, false] rfl rfl (by kernel_rfl) (fun _ _ _ h => h) (Or.inl ⟨by rfl, ?_⟩) ?_ ?_
          rotate_left
          · intro w'
            go_simp
            with_reducible rfl
          rotate_left
          · simp only [Act.put, List.setIfInBounds_toArray, List.set_cons_zero, List.set_cons_succ, i64_w, i32_w]
            rfl
          refine pure_ (i := 4) (N := some 43) (v := ?_) (a' := ?_) #[false, false, false, true, true, false, false, false, false] rfl rfl (by kernel_rfl) (fun _ _ _ h => h) (Or.inl ⟨by rfl, ?_⟩) ?_ ?_
          rotate_left
          · intro w'
            go_simp
            with_reducible rfl
          rotate_left
          · simp only [Act.put, List.setIfInBounds_toArray, List.set_cons_zero, List.set_cons_succ, i64_w, i32_w]
            rfl
          refine take_ (i := 0) (N := some 39) (v := ?_) (a' := ?_) #[true, false, false, true, true, false, false, false, false] rfl rfl (by kernel_rfl) (fun _ _ _ h => h) (Or.inl ⟨by rfl, ?_⟩) hHeld ?_ ?_
          rotate_left
          · rintro w' ⟨⟨_, s0, s1, s2, s3, s4, s5⟩, s6, s7⟩
            go_simp
            with_reducible rfl
          rotate_left
          · simp only [Act.put, List.setIfInBounds_toArray, List.set_cons_zero, List.set_cons_succ, i64_w, i32_w]
            rfl
          refine take_ (i := 1) (N := some 40) (v := ?_) (a' := ?_) #[true, true, false, true, true, false, false, false, false] rfl rfl (by kernel_rfl) (fun _ _ _ h => h) (Or.inl ⟨by rfl, ?_⟩) hHeld ?_ ?_
          rotate_left
          · rintro w' ⟨⟨_, s0, s1, s2, s3, s4, s5⟩, s6, s7⟩
            go_simp
            with_reducible rfl
          rotate_left
          · simp only [Act.put, List.setIfInBounds_toArray, List.set_cons_zero, List.set_cons_succ, i64_w, i32_w]
            rfl
          refine take_ (i := 2) (N := some 41) (v := ?_) (a' := ?_) #[true, true, true, true, true, false, false, false, false] rfl rfl (by kernel_rfl) (fun _ _ _ h => h) (Or.inl ⟨by rfl, ?_⟩) hHeld ?_ ?_
          rotate_left
          · rintro w' ⟨⟨_, s0, s1, s2, s3, s4, s5⟩, s6, s7⟩
            go_simp
            with_reducible rfl
          rotate_left
          · simp only [Act.put, List.setIfInBounds_toArray, List.set_cons_zero, List.set_cons_succ, i64_w, i32_w]
            rfl
          refine one_ (i := 5) (N := some 44) #[true, true, true, true, true, true, false, false, false] rfl rfl (by kernel_rfl) (by decide) (fun K hK => ?_)
          refine goes_ Try.func95 (by kernel_rfl) rfl #[tw s f a b, .int .i64 0, .int .i64 x] (by rfl) rfl rfl (by (try simp only [List.map_toArray, List.map_cons, List.map_nil]); first | done | rfl) ?_
          with_reducible refine (twins_moved0 s f a b x m1 m2 m3 m4 _).mono ?_
          rintro e w7 ⟨rfl, hb7⟩
          have HQ7 := Aside0.mk (blk_below (blk_drew HQ.out) hb7)
          refine ⟨_, rfl, ?_⟩
          refine hK.out _ _ ⟨(HS.out.drew.below hb7).all, (blk_cell HQ7.out 0).trans rfl, (blk_cell HQ7.out 1).trans rfl⟩ (fun hHeld => ?_)
          clear hK K
          refine norm_ (a' := ?_) ?_ ?_
          rotate_left
          · show Act.put _ (some 44) _ = _
            simp only [Act.put, List.setIfInBounds_toArray, List.set_cons_zero, List.set_cons_succ, i64_w, i32_w]
            rfl
          refine one_ (i := 6) (N := some 45) #[true, true, true, true, true, true, true, false, false] rfl rfl (by kernel_rfl) (by decide) (fun K hK => ?_)
          refine goes_ Try.func94 (by kernel_rfl) rfl #[.agg #[chO, .map (some B)], tw s f (a + x) b] (by rfl) rfl rfl (by (try simp only [List.map_toArray, List.map_cons, List.map_nil]); first | done | rfl) ?_
          with_reducible refine (IH.out (a + x) b _ ⟨by omega, hc⟩ hb (by omega) (HS.out.drew.below hb7).map).mono ?_
          rintro e w8 ⟨rfl, hm8, hb8⟩
          have HQ8 := Aside0.mk (blk_bx HQ7.out hb8 (by omega))
          refine ⟨_, rfl, ?_⟩
          refine hK.out _ _ ⟨((HS.out.drew.below hb7).mean hm8 hb8).all, (blk_cell HQ8.out 0).trans rfl, (blk_cell HQ8.out 1).trans rfl⟩ (fun hHeld => ?_)
          clear hK K
          refine norm_ (a' := ?_) ?_ ?_
          rotate_left
          · show Act.put _ (some 45) _ = _
            simp only [Act.put, List.setIfInBounds_toArray, List.set_cons_zero, List.set_cons_succ, i64_w, i32_w]
            rfl
          refine one_ (i := 7) (N := some 46) #[true, true, true, true, true, true, true, true, false] rfl rfl (by kernel_rfl) (by decide) (fun K hK => ?_)
          refine goes_ Try.func118 (by kernel_rfl) rfl #[.agg #[.int .i64 q.1, .int .i64 q.2], frV (mT 0 s f (a + x) b)] (by rfl) rfl rfl (by (try simp only [List.map_toArray, List.map_cons, List.map_nil]); first | done | rfl) ?_
          with_reducible refine (impl_fraction_plus.calls 99 q.1 q.2 _ _ r.1 r.2 _ HP.out).mono ?_
          rintro e w9 ⟨rfl, hb9⟩
          have HQ9 := Aside0.mk (blk_below HQ8.out hb9)
          refine ⟨_, rfl, ?_⟩
          refine hK.out _ _ ⟨(((HS.out.drew.below hb7).mean hm8 hb8).below hb9).all, (blk_cell HQ9.out 0).trans rfl, (blk_cell HQ9.out 1).trans rfl⟩ (fun hHeld => ?_)
          clear hK K
          refine norm_ (a' := ?_) ?_ ?_
          rotate_left
          · show Act.put _ (some 46) _ = _
            simp only [Act.put, List.setIfInBounds_toArray, List.set_cons_zero, List.set_cons_succ, i64_w, i32_w]
            rfl
          refine last_ (i := 8) (N := none) #[true, true, true, true, true, true, true, true, true] rfl rfl (by kernel_rfl) (by decide) (fun K hK => ?_)
          have hs0 := hHeld.2.1
          have hs1 := hHeld.2.2
          have hf0 := blk_frozen HQ9.out 0
          have hf1 := blk_frozen HQ9.out 1
          refine skip_ (w1 := ?_) (by rfl) rfl ?_ ?_
          rotate_left
          · go_simp
            rfl
          refine hK.out _ _ ?_
          clear hK K
          refine done_ (by kernel_rfl) ?_
          try go_wp2
          exact ⟨⟨n', x + 1, m + 1, r, rfl, rfl, by omega, by omega, by omega, by omega, HA, ⟨((((HS.out.drew.below hb7).mean hm8 hb8).below hb9).set (show w.heap.size + 2 ≤ w4.heap.size + 1 by omega) 0 (.int .i64 r.1)).set (show w.heap.size + 2 ≤ w4.heap.size + 1 by omega) 1 (.int .i64 r.2)⟩, ⟨blk_put (blk_put HQ9.out 0 (.int .i64 r.1) rfl) 1 (.int .i64 r.2) rfl⟩, ⟨(Below.heap_setCell _ _ _ _ (show w.heap.size + 1 + 1 ≠ w4.heap.size + 1 by omega)).trans ((Below.heap_setCell _ _ _ _ (show w.heap.size + 1 + 1 ≠ w4.heap.size + 1 by omega)).trans (blk_below (blk_bx (blk_below (blk_drew HR.out) hb7) hb8 (by omega)) hb9))⟩⟩, by simp [intOf]; omega⟩
        · rw [if_pos (by decide)] at h
          simp only [if_neg (show ¬ (1:Int) = 0 by decide)] at h
          obtain ⟨r, hr, h⟩ := Option.bind_eq_some_iff.1 h
          have HA := Aside0.mk h
          have HT2 := Aside0.mk ht
          have HP := Aside0.mk hr
          clear h ht hr
          go_wp2_with (go_at_call 79; refine (choice_0 s f B a b x 1 _ hs hf ha hb ⟨hx, hle⟩ HS.out.map HT2.out IH.out).mono ?_; rintro e w6 ⟨rfl, hm6, hb6⟩; have n0_ := Aside0.mk (HS.out.mean hm6 hb6); have n1_ := Aside0.mk (blk_bx HQ.out hb6 (by omega)); have n2_ := Aside0.mk (blk_bx HR.out hb6 (by omega)); clear HS HQ HR hm6 hb6; have HS := n0_; have HQ := n1_; have HR := n2_; clear n0_ n1_ n2_; have q60 : w6.cell? ⟨w4.heap.size + 1, 0, none⟩ = some (.int .i64 q.1) := (blk_cell HQ.out 0).trans rfl; have q61 : w6.cell? ⟨w4.heap.size + 1, 1, none⟩ = some (.int .i64 q.2) := (blk_cell HQ.out 1).trans rfl; have SV := (HS.out).all; have xe0 := SV.2.1; have xe1 := SV.2.2.1; have xe2 := SV.2.2.2.1; have xe3 := SV.2.2.2.2.1; have xe4 := SV.2.2.2.2.2.1; have xe5 := SV.2.2.2.2.2.2; clear SV)
          refine start_ (n := 9) (S := fun W => Sv 0 s f a b chO B w W ∧ W.cell? ⟨w4.heap.size + 1, 0, none⟩ = some (.int .i64 q.1) ∧ W.cell? ⟨w4.heap.size + 1, 1, none⟩ = some (.int .i64 q.2)) (ds := [8]) #[false, false, false, false, false, false, false, false, false] (by kernel_rfl) rfl rfl ⟨HS.out.drew.all, (blk_cell (blk_drew HQ.out) 0).trans rfl, (blk_cell (blk_drew HQ.out) 1).trans rfl⟩ (fun hHeld => ?_)
          refine pure_ (i := 3) (N := some 42) (v := ?_) (a' := ?_) #[false, false, false, true, false, false, false, false, false] rfl rfl (by kernel_rfl) (fun _ _ _ h => h) (Or.inl ⟨by rfl, ?_⟩) ?_ ?_
          rotate_left
          · intro w'
            go_simp
            with_reducible rfl
          rotate_left
          · simp only [Act.put, List.setIfInBounds_toArray, List.set_cons_zero, List.set_cons_succ, i64_w, i32_w]
            rfl
          refine pure_ (i := 4) (N := some 43) (v := ?_) (a' := ?_) #[false, false, false, true, true, false, false, false, false] rfl rfl (by kernel_rfl) (fun _ _ _ h => h) (Or.inl ⟨by rfl, ?_⟩) ?_ ?_
          rotate_left
          · intro w'
            go_simp
            with_reducible rfl
          rotate_left
          · simp only [Act.put, List.setIfInBounds_toArray, List.set_cons_zero, List.set_cons_succ, i64_w, i32_w]
            rfl
          refine take_ (i := 0) (N := some 39) (v := ?_) (a' := ?_) #[true, false, false, true, true, false, false, false, false] rfl rfl (by kernel_rfl) (fun _ _ _ h => h) (Or.inl ⟨by rfl, ?_⟩) hHeld ?_ ?_
          rotate_left
          · rintro w' ⟨⟨_, s0, s1, s2, s3, s4, s5⟩, s6, s7⟩
            go_simp
            with_reducible rfl
          rotate_left
          · simp only [Act.put, List.setIfInBounds_toArray, List.set_cons_zero, List.set_cons_succ, i64_w, i32_w]
            rfl
          refine take_ (i := 1) (N := some 40) (v := ?_) (a' := ?_) #[true, true, false, true, true, false, false, false, false] rfl rfl (by kernel_rfl) (fun _ _ _ h => h) (Or.inl ⟨by rfl, ?_⟩) hHeld ?_ ?_
          rotate_left
          · rintro w' ⟨⟨_, s0, s1, s2, s3, s4, s5⟩, s6, s7⟩
            go_simp
            with_reducible rfl
          rotate_left
          · simp only [Act.put, List.setIfInBounds_toArray, List.set_cons_zero, List.set_cons_succ, i64_w, i32_w]
            rfl
          refine take_ (i := 2) (N := some 41) (v := ?_) (a' := ?_) #[true, true, true, true, true, false, false, false, false] rfl rfl (by kernel_rfl) (fun _ _ _ h => h) (Or.inl ⟨by rfl, ?_⟩) hHeld ?_ ?_
          rotate_left
          · rintro w' ⟨⟨_, s0, s1, s2, s3, s4, s5⟩, s6, s7⟩
            go_simp
            with_reducible rfl
          rotate_left
          · simp only [Act.put, List.setIfInBounds_toArray, List.set_cons_zero, List.set_cons_succ, i64_w, i32_w]
            rfl
          refine one_ (i := 5) (N := some 44) #[true, true, true, true, true, true, false, false, false] rfl rfl (by kernel_rfl) (by decide) (fun K hK => ?_)
          refine goes_ Try.func95 (by kernel_rfl) rfl #[tw s f a b, .int .i64 1, .int .i64 x] (by rfl) rfl rfl (by (try simp only [List.map_toArray, List.map_cons, List.map_nil]); first | done | rfl) ?_
          with_reducible refine (twins_moved1 s f a b x m1 m2 m3 m4 _).mono ?_
          rintro e w7 ⟨rfl, hb7⟩
          have HQ7 := Aside0.mk (blk_below (blk_drew HQ.out) hb7)
          refine ⟨_, rfl, ?_⟩
          refine hK.out _ _ ⟨(HS.out.drew.below hb7).all, (blk_cell HQ7.out 0).trans rfl, (blk_cell HQ7.out 1).trans rfl⟩ (fun hHeld => ?_)
          clear hK K
          refine norm_ (a' := ?_) ?_ ?_
          rotate_left
          · show Act.put _ (some 44) _ = _
            simp only [Act.put, List.setIfInBounds_toArray, List.set_cons_zero, List.set_cons_succ, i64_w, i32_w]
            rfl
          refine one_ (i := 6) (N := some 45) #[true, true, true, true, true, true, true, false, false] rfl rfl (by kernel_rfl) (by decide) (fun K hK => ?_)
          refine goes_ Try.func94 (by kernel_rfl) rfl #[.agg #[chO, .map (some B)], tw s f a (b + x)] (by rfl) rfl rfl (by (try simp only [List.map_toArray, List.map_cons, List.map_nil]); first | done | rfl) ?_
          with_reducible refine (IH.out a (b + x) _ ha ⟨by omega, hc⟩ (by omega) (HS.out.drew.below hb7).map).mono ?_
          rintro e w8 ⟨rfl, hm8, hb8⟩
          have HQ8 := Aside0.mk (blk_bx HQ7.out hb8 (by omega))
          refine ⟨_, rfl, ?_⟩
          refine hK.out _ _ ⟨((HS.out.drew.below hb7).mean hm8 hb8).all, (blk_cell HQ8.out 0).trans rfl, (blk_cell HQ8.out 1).trans rfl⟩ (fun hHeld => ?_)
          clear hK K
          refine norm_ (a' := ?_) ?_ ?_
          rotate_left
          · show Act.put _ (some 45) _ = _
            simp only [Act.put, List.setIfInBounds_toArray, List.set_cons_zero, List.set_cons_succ, i64_w, i32_w]
            rfl
          refine one_ (i := 7) (N := some 46) #[true, true, true, true, true, true, true, true, false] rfl rfl (by kernel_rfl) (by decide) (fun K hK => ?_)
          refine goes_ Try.func118 (by kernel_rfl) rfl #[.agg #[.int .i64 q.1, .int .i64 q.2], frV (mT 0 s f a (b + x))] (by rfl) rfl rfl (by (try simp only [List.map_toArray, List.map_cons, List.map_nil]); first | done | rfl) ?_
          with_reducible refine (impl_fraction_plus.calls 99 q.1 q.2 _ _ r.1 r.2 _ HP.out).mono ?_
          rintro e w9 ⟨rfl, hb9⟩
          have HQ9 := Aside0.mk (blk_below HQ8.out hb9)
          refine ⟨_, rfl, ?_⟩
          refine hK.out _ _ ⟨(((HS.out.drew.below hb7).mean hm8 hb8).below hb9).all, (blk_cell HQ9.out 0).trans rfl, (blk_cell HQ9.out 1).trans rfl⟩ (fun hHeld => ?_)
          clear hK K
          refine norm_ (a' := ?_) ?_ ?_
          rotate_left
          · show Act.put _ (some 46) _ = _
            simp only [Act.put, List.setIfInBounds_toArray, List.set_cons_zero, List.set_cons_succ, i64_w, i32_w]
            rfl
          refine last_ (i := 8) (N := none) #[true, true, true, true, true, true, true, true, true] rfl rfl (by kernel_rfl) (by decide) (fun K hK => ?_)
          have hs0 := hHeld.2.1
          have hs1 := hHeld.2.2
          have hf0 := blk_frozen HQ9.out 0
          have hf1 := blk_frozen HQ9.out 1
          refine skip_ (w1 := ?_) (by rfl) rfl ?_ ?_
          rotate_left
          · go_simp
            rfl
          refine hK.out _ _ ?_
          clear hK K
          refine done_ (by kernel_rfl) ?_
          try go_wp2
          exact ⟨⟨n', x + 1, m + 1, r, rfl, rfl, by omega, by omega, by omega, by omega, HA, ⟨((((HS.out.drew.below hb7).mean hm8 hb8).below hb9).set (show w.heap.size + 2 ≤ w4.heap.size + 1 by omega) 0 (.int .i64 r.1)).set (show w.heap.size + 2 ≤ w4.heap.size + 1 by omega) 1 (.int .i64 r.2)⟩, ⟨blk_put (blk_put HQ9.out 0 (.int .i64 r.1) rfl) 1 (.int .i64 r.2) rfl⟩, ⟨(Below.heap_setCell _ _ _ _ (show w.heap.size + 1 + 1 ≠ w4.heap.size + 1 by omega)).trans ((Below.heap_setCell _ _ _ _ (show w.heap.size + 1 + 1 ≠ w4.heap.size + 1 by omega)).trans (blk_below (blk_bx (blk_below (blk_drew HR.out) hb7) hb8 (by omega)) hb9))⟩⟩, by simp [intOf]; omega⟩
      · obtain rfl : n = 0 := by omega
        have h := HA.out
        rw [sm] at h
        obtain rfl := Option.some.inj h
        have HV := Aside0.mk (show impl_fraction_over.f 99 q.1 q.2 m 1 = some ((mT 0 s f a b).1, (mT 0 s f a b).2) from HO.out)
        have HL := Aside0.mk (twL_len (f := f) hs)
        clear h
        go_wp2_with (first
          | (go_at_call 151; (with_reducible refine (impl_fraction_over.calls 99 q.1 q.2 m 1 _ _ _ HV.out).mono ?_); rintro e w6 ⟨rfl, hb6⟩; have HS6 := Aside0.mk ((HS.out.below hb6).alloc (.cells #[.int .i64 (mT 0 s f a b).1, .int .i64 (mT 0 s f a b).2] 101)); have HR6 := Aside0.mk (blk_alloc (blk_below HR.out hb6) (.cells #[.int .i64 (mT 0 s f a b).1, .int .i64 (mT 0 s f a b).2] 101)); have HT6 := Aside0.mk (blk_new w6 (.cells #[.int .i64 (mT 0 s f a b).1, .int .i64 (mT 0 s f a b).2] 101)); have SV := (HS6.out).all; have xf0 := SV.2.1; have xf1 := SV.2.2.1; have xf2 := SV.2.2.2.1; have xf3 := SV.2.2.2.2.1; have xf4 := SV.2.2.2.2.2.1; have xf5 := SV.2.2.2.2.2.2; clear SV; have t6c0 := (blk_cell HT6.out 0).trans rfl; have t6f0 := blk_frozen HT6.out 0; have t6c1 := (blk_cell HT6.out 1).trans rfl; have t6f1 := blk_frozen HT6.out 1)
          | (at_mapUpdate; refine wpList_memo_put _ rfl _ _ _ 93 rfl 87 101 tw_law Try.underlying93 (twF 0 s f) (twL s f) B HL.out rfl HS6.out.map _ _ kl rfl rfl HK.out ⟨a, b, ha.1, ha.2, hb.1, hb.2, rfl, rfl⟩ (twL_mem ha hb) ?_; intro w8 hm8 hg8; have HX := (Bx.refl (w6.alloc (.cells #[.int .i64 (mT 0 s f a b).1, .int .i64 (mT 0 s f a b).2] 101)).heap.size B (w6.alloc (.cells #[.int .i64 (mT 0 s f a b).1, .int .i64 (mT 0 s f a b).2] 101))).grown hg8 (Nat.le_refl _); have HS8 := Aside0.mk (HS6.out.mean hm8 HX); have HR8 := Aside0.mk (blk_bx HR6.out HX (by omega)); have HT8 := Aside0.mk (blk_bx HT6.out HX (by have := hb6.size; have := blk_lt HQ.out; omega)); clear HX hm8 hg8; have t8c0 := (blk_cell HT8.out 0).trans rfl; have t8f0 := blk_frozen HT8.out 0; have t8c1 := (blk_cell HT8.out 1).trans rfl; have t8f1 := blk_frozen HT8.out 1; have r8c0 := (blk_cell HR8.out 0).trans rfl; have r8f0 := blk_frozen HR8.out 0; have r8c1 := (blk_cell HR8.out 1).trans rfl; have r8f1 := blk_frozen HR8.out 1))
        refine bodyPost_ret (results_cell_row rfl _ _ (w.heap.size + 1 + 1) 101 #[.int .i64 (mT 0 s f a b).1, .int .i64 (mT 0 s f a b).2] (0, 0) _ rfl (blk_put (blk_put HR8.out 0 (.int .i64 (mT 0 s f a b).1) rfl) 1 (.int .i64 (mT 0 s f a b).2) rfl) Try.underlying101 rfl (by kernel_rfl)) rfl ?_
        have HE := (HS8.out.set (show w.heap.size + 2 ≤ w.heap.size + 1 + 1 by omega) 0 (.int .i64 (mT 0 s f a b).1)).set (show w.heap.size + 2 ≤ w.heap.size + 1 + 1 by omega) 1 (.int .i64 (mT 0 s f a b).2)
        exact ⟨rfl, HE.map, HE.bx⟩
end Go.Proofs.Ytnoejflancomaaa.P
end

section
namespace Go.Proofs.Ytnoejflancomaaa.P
set_option linter.unusedVariables false
set_option linter.unusedSimpArgs false
open Go.RowKit Go.Proofs.YtnoejflancomaaaW.PrintWords Go.Proofs.YtnoejflancomaaaW.PrintLast Go.Proofs.YtnoejflancomaaaW.PrintMore
def stAll (ru : Nat) : Bool := (List.range 6).all fun s => (List.range 4).all fun f => (List.range (s + 2)).all fun a => (List.range (s + 2)).all fun b =>
  stO ru ((s + 1 : Nat) : Int) ((f + 1 : Nat) : Int) (a : Int) (b : Int) == some (mT ru ((s + 1 : Nat) : Int) ((f + 1 : Nat) : Int) (a : Int) (b : Int))
theorem stAll_spec {ru : Nat} (h : stAll ru = true) {s f a b : Int} (hs : 1 ≤ s ∧ s ≤ 6) (hf : 1 ≤ f ∧ f ≤ 4) (ha : 0 ≤ a ∧ a ≤ s) (hb : 0 ≤ b ∧ b ≤ s) : stO ru s f a b = some (mT ru s f a b) := by
  unfold stAll at h
  have h1 := List.all_eq_true.1 h (s.toNat - 1) (List.mem_range.2 (by omega))
  have h2 := List.all_eq_true.1 h1 (f.toNat - 1) (List.mem_range.2 (by omega))
  have h3 := List.all_eq_true.1 h2 a.toNat (List.mem_range.2 (by omega))
  have h4 := List.all_eq_true.1 h3 b.toNat (List.mem_range.2 (by omega))
  have h5 := eq_of_beq h4
  have e1 : ((s.toNat - 1 + 1 : Nat) : Int) = s := by omega
  have e2 : ((f.toNat - 1 + 1 : Nat) : Int) = f := by omega
  have e3 : (a.toNat : Int) = a := by omega
  have e4 : (b.toNat : Int) = b := by omega
  rw [e1, e2, e3, e4] at h5
  exact h5
theorem stAll_0 : stAll 0 = true := by decide +kernel
theorem mean_0 {s f : Int} (B : Nat) (hs : 1 ≤ s ∧ s ≤ 6) (hf : 1 ≤ f ∧ f ≤ 4) : ∀ (p : Nat) (a b : Int) (w : World), 0 ≤ a ∧ a ≤ s → 0 ≤ b ∧ b ≤ s → 2 * s - a - b ≤ p → memo Try.prog 87 (twF 0 s f) (twL s f) B w →
    Calls Try.prog 94 #[.agg #[chO, .map (some B)], tw s f a b] w fun e w' => e = .returned (frV (mT 0 s f a b)) ∧ memo Try.prog 87 (twF 0 s f) (twL s f) B w' ∧ Bx w.heap.size B w w'
  | 0, a, b, w, ha, hb, hp, hm => mean_step_0 s f B a b w hs hf ha hb hm (stAll_spec stAll_0 hs hf ha hb) (fun a' b' w' ha' hb' h _ => by omega)
  | p + 1, a, b, w, ha, hb, hp, hm => mean_step_0 s f B a b w hs hf ha hb hm (stAll_spec stAll_0 hs hf ha hb) (fun a' b' w' ha' hb' h hm' => mean_0 B hs hf p a' b' w' ha' hb' (by omega) hm')
end Go.Proofs.Ytnoejflancomaaa.P
end

section
namespace Go.Proofs.Ytnoejflancomaaa.P
open Go.RowKit Go.Proofs.YtnoejflancomaaaW.PrintWords Go.Proofs.YtnoejflancomaaaW.PrintLast Go.Proofs.YtnoejflancomaaaW.PrintMore
attribute [local go_sem] max2_int min2_int max_two min_two max_three min_three max_four min_four
set_option linter.unusedVariables false
set_option linter.unusedSimpArgs false
def impl_fraction_told.f (a0_0 : Int) (a0_1 : Int) : Option (Int × Int × Bool) := some (a0_0, a0_1, true)
set_option maxHeartbeats 8000000 in
set_option maxRecDepth 100000 in
theorem impl_fraction_told.calls (a0_0 : Int) (a0_1 : Int) (r1 : Int) (r2 : Int) (r3 : Bool) (w : World) (h : impl_fraction_told.f a0_0 a0_1 = some (r1, r2, r3)) :
    Calls Try.prog 120 #[.agg #[.int .i64 a0_0, .int .i64 a0_1]] w fun e w' => e = .returned (.tuple #[.int .i64 r1, .int .i64 r2, .bool r3]) ∧ Below w.heap.size w w' := by
  have hu101 := Try.underlying101
  have HB := Aside0.mk (Below.refl w.heap.size w)
  have H : (some (a0_0, a0_1, true)) = some (r1, r2, r3) := h
  clear h
  simp only [Option.some.injEq, Prod.mk.injEq] at H
  obtain ⟨rfl, rfl, rfl⟩ := H
  go_enter Try.func120, Try.ntmps120
  go_wp2_with (first | ((with_reducible refine gate_dst (N := 1) rfl ?_); refine box_event ?hg (N := 1) ?hd (cs := #[.int .i64 a0_0, .int .i64 a0_1]) (t := 101) ?hr ?_; (case hd => rfl); (case hg => rfl); (case hr => first | (go_simp; done) | (go_simp; rfl)); intro gb335 hg w2 hbox hb; have n0_ := Aside0.mk (below_step (by repeat (first | (with_reducible first | exact HB.out | apply below_alloc | apply pw_below_drewN | apply below_drew1) | exact HB.out)) hb); have n1_ := Aside0.mk (hbox); have n2_ := Aside0.mk ((by rw [hg]; exact (below_size (by repeat (first | (with_reducible first | exact HB.out | apply below_alloc | apply pw_below_drewN | apply below_drew1) | exact HB.out))) : w.heap.size ≤ gb335)); have n3_ := Aside0.mk ((by rw [hg]; exact (below_size (by repeat (first | (with_reducible first | exact HB.out | apply below_alloc | apply pw_below_drewN | apply below_drew1) | exact HB.out))) : w.heap.size ≤ gb335)); clear HB; have HB := n0_; have BK335 := n1_; have GW335 := n2_; have GE335 := n3_; clear n0_ n1_ n2_ n3_; clear hb hbox hg; have hcz3_0 : w2.cell? ⟨gb335, 0, none⟩ = some (.int .i64 a0_0) := (blk_cell BK335.out 0).trans rfl; have hcz3_1 : w2.cell? ⟨gb335, 1, none⟩ = some (.int .i64 a0_1) := (blk_cell BK335.out 1).trans rfl; have hfz3_0 := blk_frozen BK335.out 0; have hfz3_1 := blk_frozen BK335.out 1))
  repeat (go_quiet (first | ((with_reducible refine gate_dst (N := 1) rfl ?_); refine box_event ?hg (N := 1) ?hd (cs := #[.int .i64 a0_0, .int .i64 a0_1]) (t := 101) ?hr ?_; (case hd => rfl); (case hg => rfl); (case hr => first | (go_simp; done) | (go_simp; rfl)); intro gb335 hg w2 hbox hb; have n0_ := Aside0.mk (below_step (by repeat (first | (with_reducible first | exact HB.out | apply below_alloc | apply pw_below_drewN | apply below_drew1) | exact HB.out)) hb); have n1_ := Aside0.mk (hbox); have n2_ := Aside0.mk ((by rw [hg]; exact (below_size (by repeat (first | (with_reducible first | exact HB.out | apply below_alloc | apply pw_below_drewN | apply below_drew1) | exact HB.out))) : w.heap.size ≤ gb335)); have n3_ := Aside0.mk ((by rw [hg]; exact (below_size (by repeat (first | (with_reducible first | exact HB.out | apply below_alloc | apply pw_below_drewN | apply below_drew1) | exact HB.out))) : w.heap.size ≤ gb335)); clear HB; have HB := n0_; have BK335 := n1_; have GW335 := n2_; have GE335 := n3_; clear n0_ n1_ n2_ n3_; clear hb hbox hg; have hcz3_0 : w2.cell? ⟨gb335, 0, none⟩ = some (.int .i64 a0_0) := (blk_cell BK335.out 0).trans rfl; have hcz3_1 : w2.cell? ⟨gb335, 1, none⟩ = some (.int .i64 a0_1) := (blk_cell BK335.out 1).trans rfl; have hfz3_0 := blk_frozen BK335.out 0; have hfz3_1 := blk_frozen BK335.out 1)); try go_wp2_with (first | ((with_reducible refine gate_dst (N := 1) rfl ?_); refine box_event ?hg (N := 1) ?hd (cs := #[.int .i64 a0_0, .int .i64 a0_1]) (t := 101) ?hr ?_; (case hd => rfl); (case hg => rfl); (case hr => first | (go_simp; done) | (go_simp; rfl)); intro gb335 hg w2 hbox hb; have n0_ := Aside0.mk (below_step (by repeat (first | (with_reducible first | exact HB.out | apply below_alloc | apply pw_below_drewN | apply below_drew1) | exact HB.out)) hb); have n1_ := Aside0.mk (hbox); have n2_ := Aside0.mk ((by rw [hg]; exact (below_size (by repeat (first | (with_reducible first | exact HB.out | apply below_alloc | apply pw_below_drewN | apply below_drew1) | exact HB.out))) : w.heap.size ≤ gb335)); have n3_ := Aside0.mk ((by rw [hg]; exact (below_size (by repeat (first | (with_reducible first | exact HB.out | apply below_alloc | apply pw_below_drewN | apply below_drew1) | exact HB.out))) : w.heap.size ≤ gb335)); clear HB; have HB := n0_; have BK335 := n1_; have GW335 := n2_; have GE335 := n3_; clear n0_ n1_ n2_ n3_; clear hb hbox hg; have hcz3_0 : w2.cell? ⟨gb335, 0, none⟩ = some (.int .i64 a0_0) := (blk_cell BK335.out 0).trans rfl; have hcz3_1 : w2.cell? ⟨gb335, 1, none⟩ = some (.int .i64 a0_1) := (blk_cell BK335.out 1).trans rfl; have hfz3_0 := blk_frozen BK335.out 0; have hfz3_1 := blk_frozen BK335.out 1)))
  go_ret3
  exact ⟨by first | rfl | (simp [errW_none, errW_some] <;> rfl) | (simp [*, errW_none, errW_some] <;> rfl), by repeat (first | (with_reducible first | exact HB.out | apply below_alloc | apply pw_below_drewN | apply below_drew1 | refine below_set ?_ GE335.out) | exact HB.out)⟩
end Go.Proofs.Ytnoejflancomaaa.P
end

section
namespace Go.Proofs.Ytnoejflancomaaa.P
set_option linter.unusedVariables false
set_option linter.unusedSimpArgs false
open Go.RowKit Go.Proofs.YtnoejflancomaaaW.PrintWords Go.Proofs.YtnoejflancomaaaW.PrintLast Go.Proofs.YtnoejflancomaaaW.PrintMore
attribute [local go_sem] max2_int min2_int max_two min_two max_three min_three max_four min_four
def prG (s f a b : Int) : Bool := inn s 1 6 && inn f 1 4 && inn a 0 s && inn b 0 s
theorem prG_iff {s f a b : Int} : prG s f a b = true ↔ (1 ≤ s ∧ s ≤ 6) ∧ (1 ≤ f ∧ f ≤ 4) ∧ (0 ≤ a ∧ a ≤ s) ∧ (0 ≤ b ∧ b ≤ s) := by
  simp only [prG, Bool.and_eq_true, inn_iff, and_assoc]
theorem memo_empty {P : Program} {k : TypeId} {F : Value → Value → Prop} {L : List Value} {b : Nat} {w : World} (h : w.heap[b]? = some (.map #[] 0)) : memo P k F L b w :=
  ⟨#[], 0, h, ⟨by simp, MapKept.stamped_empty 0, by simp⟩, by simp⟩
def prR (ru : Nat) (s f a b : Int) : Int × Int × Bool := if prG s f a b then ((mT ru s f a b).1, (mT ru s f a b).2, true) else (0, 0, false)
theorem told_calls (x y : Int) (w : World) : Calls Try.prog 120 #[.agg #[.int .i64 x, .int .i64 y]] w fun e w' => e = .returned (.tuple #[.int .i64 x, .int .i64 y, .bool true]) ∧ Below w.heap.size w w' := impl_fraction_told.calls x y x y true w rfl
abbrev Tq (s f a b : Int) (g : Nat) (W : World) : Prop :=
  Aside0 (W.heap[g]? = some (.cells #[.int .i64 s, .int .i64 f, .int .i64 a, .int .i64 b] 87 (0, 0))) ∧ W.cell? ⟨g, 0, none⟩ = some (.int .i64 s) ∧ W.cell? ⟨g, 1, none⟩ = some (.int .i64 f) ∧ W.cell? ⟨g, 2, none⟩ = some (.int .i64 a) ∧ W.cell? ⟨g, 3, none⟩ = some (.int .i64 b)
theorem tq {s f a b : Int} {g : Nat} {W : World} (h : W.heap[g]? = some (.cells #[.int .i64 s, .int .i64 f, .int .i64 a, .int .i64 b] 87 (0, 0))) : Tq s f a b g W :=
  ⟨⟨h⟩, (blk_cell h 0).trans rfl, (blk_cell h 1).trans rfl, (blk_cell h 2).trans rfl, (blk_cell h 3).trans rfl⟩
set_option maxHeartbeats 1600000 in
set_option maxRecDepth 100000 in
theorem meanBy_0 (s f a b : Int) (w : World) :
    Calls Try.prog 81 #[.int .i64 s, .int .i64 f, .int .i64 a, .int .i64 b, chO] w fun e w' => e = .returned (.tuple #[.int .i64 (prR 0 s f a b).1, .int .i64 (prR 0 s f a b).2.1, .bool (prR 0 s f a b).2.2]) ∧ Below w.heap.size w w' := by
  go_enter Try.func81, Try.ntmps81
  have HB := Aside0.mk (Below.refl w.heap.size w)
  by_cases hg : prG s f a b = true
  · have hr : prR 0 s f a b = ((mT 0 s f a b).1, (mT 0 s f a b).2, true) := by simp [prR, hg]
    rw [hr]
    have hg' : (inn s 1 6 && inn f 1 4 && inn a 0 s && inn b 0 s) = true := hg
    obtain ⟨hs, hf, ha, hb⟩ := prG_iff.1 hg
    clear hr hg
    go_wp2_with (go_at_call 75; refine (twins_of s f a b _).mono ?_; rintro e w1 ⟨rfl, hb1⟩; have n0_ := Aside0.mk (bT HB.out hb1); clear HB; have HB := n0_; clear n0_; clear hb1)
    have HG := Aside0.mk (blk_new w1 (.cells #[.int .i64 s, .int .i64 f, .int .i64 a, .int .i64 b] 87))
    have HB2 := Aside0.mk (below_alloc HB.out (.cells #[.int .i64 s, .int .i64 f, .int .i64 a, .int .i64 b] 87)).drew
    have hp : 2 * s - a - b ≤ ((2 * s - a - b).toNat : Int) := by omega
    have E0 := Aside0.mk (show (w1.alloc (.cells #[.int .i64 s, .int .i64 f, .int .i64 a, .int .i64 b] 87)).drew.heap.size + 1 = w1.heap.size + 1 + 1 from congrArg (· + 1) (World.size_alloc _ _))
    have hne : w1.heap.size ≠ w1.heap.size + 1 + 1 := by omega
    go_region_held3 (fun W => Tq s f a b w1.heap.size W) (first | exact tq (blk_drew HG.out) | exact tq (blk_below (blk_drew HG.out) hb3) | exact tq (blk_bx (blk_below (blk_drew HG.out) hb3) hb4 hne) | exact tq (blk_below (blk_bx (blk_below (blk_drew HG.out) hb3) hb4 hne) hb5)) (first
      | (go_at_call 77; (with_reducible refine (twins_new 78 #[] #[] _).mono ?_); rintro e w3 ⟨rfl, hm3, hb3⟩; rw [E0.out] at hm3; (try rw [E0.out]))
      | (go_at_call 94; (with_reducible refine (mean_0 (w1.heap.size + 1 + 1) hs hf (2 * s - a - b).toNat a b _ ha hb hp (memo_empty hm3)).mono ?_); rintro e w4 ⟨rfl, hm4, hb4⟩)
      | (go_at_call 120; (with_reducible refine (told_calls _ _ _).mono ?_); rintro e w5 ⟨rfl, hb5⟩))
    go_wp2
    go_returns
    have g2 := bT HB2.out hb3
    have g3 : Below w.heap.size w w4 := g2.trans ((hb4.mono g2.size).below (by have := HB.out.size; omega))
    exact ⟨rfl, bT g3 hb5⟩
  · have hr : prR 0 s f a b = (0, 0, false) := by simp [prR, hg]
    rw [hr]
    have hg' : (inn s 1 6 && inn f 1 4 && inn a 0 s && inn b 0 s) = false := by simpa [prG] using hg
    clear hr hg
    go_wp2_with (go_at_call 75; refine (twins_of s f a b _).mono ?_; rintro e w1 ⟨rfl, hb1⟩; have n0_ := Aside0.mk (bT HB.out hb1); clear HB; have HB := n0_; clear n0_; clear hb1)
    go_returns
    exact ⟨rfl, below_alloc HB.out _⟩
end Go.Proofs.Ytnoejflancomaaa.P
end

section
namespace Go.Proofs.Ytnoejflancomaaa.P
set_option linter.unusedVariables false
set_option linter.unusedSimpArgs false
open Go.RowKit Go.Proofs.YtnoejflancomaaaW.PrintWords Go.Proofs.YtnoejflancomaaaW.PrintLast Go.Proofs.YtnoejflancomaaaW.PrintMore
theorem choice_all_0 (s f : Int) (B : Nat) (a b x : Int) (tok : Int) (w : World) (hs : 1 ≤ s ∧ s ≤ 6) (hf : 1 ≤ f ∧ f ≤ 4) (ha : 0 ≤ a ∧ a ≤ s) (hb : 0 ≤ b ∧ b ≤ s) (hx : 1 ≤ x ∧ x ≤ f)
    (hm : memo Try.prog 87 (twF 0 s f) (twL s f) B w) (ht : tk 0 s f a b x = some tok) :
    Calls Try.prog 79 #[.agg #[chO, .map (some B)], tw s f a b, .int .i64 x] w fun e w' => e = .returned (.int .i64 tok) ∧ memo Try.prog 87 (twF 0 s f) (twL s f) B w' ∧ Bx w.heap.size B w w' :=
  choice_0 s f B a b x tok w hs hf ha hb hx hm ht (fun a' b' w' ha' hb' _ hm' => mean_0 B hs hf (2 * s - a' - b').toNat a' b' w' ha' hb' (by omega) hm')
theorem mean_all_0 (s f : Int) (B : Nat) (a b : Int) (w : World) (hs : 1 ≤ s ∧ s ≤ 6) (hf : 1 ≤ f ∧ f ≤ 4) (ha : 0 ≤ a ∧ a ≤ s) (hb : 0 ≤ b ∧ b ≤ s)
    (hm : memo Try.prog 87 (twF 0 s f) (twL s f) B w) :
    Calls Try.prog 94 #[.agg #[chO, .map (some B)], tw s f a b] w fun e w' => e = .returned (frV (mT 0 s f a b)) ∧ memo Try.prog 87 (twF 0 s f) (twL s f) B w' ∧ Bx w.heap.size B w w' :=
  mean_0 B hs hf (2 * s - a - b).toNat a b w ha hb (by omega) hm
end Go.Proofs.Ytnoejflancomaaa.P
end

section
namespace Go.Proofs.Ytnoejflancomaaa.P
open Go.RowKit Go.Proofs.YtnoejflancomaaaW.PrintWords Go.Proofs.YtnoejflancomaaaW.PrintLast Go.Proofs.YtnoejflancomaaaW.PrintMore
attribute [local go_sem] max2_int min2_int max_two min_two max_three min_three max_four min_four
set_option linter.unusedVariables false
set_option linter.unusedSimpArgs false
theorem eqA_frac (d : Nat) (w : World) (x0 y0 : Int) (x1 y1 : Int) :
    (Op.equalIn (d + 2) 101 (.agg #[.int .i64 x0, .int .i64 x1]) (.agg #[.int .i64 y0, .int .i64 y1])).run Try.prog w = .ok (x0 == y0 && (x1 == y1)) w := by
  refine eqA_of Try.underlying101 (by kernel_rfl) ?_
  refine eqf_cons (by rfl) (by go_simp; rfl) (by go_simp; rfl) (by go_simp) ?_
  exact eqf_last (by rfl) (by go_simp; rfl) (by go_simp; rfl) (by go_simp)
attribute [local go_sem high] eqA_frac
def mtB (s f a b x : Int) : Bool := decide (a + x ≤ s) && decide (b + x ≤ s) && (!((mT 0 s f (a + x) b).1 == (mT 0 s f a (b + x)).1) || !((mT 0 s f (a + x) b).2 == (mT 0 s f a (b + x)).2))
def mtL (s f a b : Int) : Nat → Int → List Int
  | 0, _ => []
  | n + 1, x => (if mtB s f a b x then [x] else []) ++ mtL s f a b n (x + 1)
def impl_PairMatters.f (s f a b : Int) : Option (List Int × Bool) := some (if prG s f a b then (mtL s f a b f.toNat 1, true) else ([], false))
structure Pm (s f a b : Int) (gt gm B : Nat) (w0 W : World) : Prop where
  map : memo Try.prog 87 (twF 0 s f) (twL s f) B W
  kt : W.heap[gt]? = some (.cells #[.int .i64 s, .int .i64 f, .int .i64 a, .int .i64 b] 87 (0, 0))
  km : W.heap[gm]? = some (.cells #[chO, .map (some B)] 95 (0, 0))
  nt : gt ≠ B
  nm : gm ≠ B
  lo : w0.heap.size ≤ B
  bw : Below w0.heap.size w0 W
section
variable {s f a b : Int} {gt gm B : Nat} {w0 W W' : World}
theorem Pm.drew (h : Pm s f a b gt gm B w0 W) : Pm s f a b gt gm B w0 W.drew := ⟨h.map.drew, blk_drew h.kt, blk_drew h.km, h.nt, h.nm, h.lo, h.bw.drew⟩
theorem Pm.below (h : Pm s f a b gt gm B w0 W) (hb : Below W.heap.size W W') : Pm s f a b gt gm B w0 W' := ⟨h.map.below hb, blk_below h.kt hb, blk_below h.km hb, h.nt, h.nm, h.lo, bT h.bw hb⟩
theorem Pm.mean (h : Pm s f a b gt gm B w0 W) (hm : memo Try.prog 87 (twF 0 s f) (twL s f) B W') (hb : Bx W.heap.size B W W') : Pm s f a b gt gm B w0 W' :=
  ⟨hm, blk_bx h.kt hb h.nt, blk_bx h.km hb h.nm, h.nt, h.nm, h.lo, h.bw.trans ((hb.mono h.bw.size).below h.lo)⟩
theorem Pm.grown {row : Option Nat} (h : Pm s f a b gt gm B w0 W) (hg : W.grownBy W' row) (hb : Below w0.heap.size w0 W') (h1 : some gt ≠ row) (h2 : some gm ≠ row) (h3 : some B ≠ row) : Pm s f a b gt gm B w0 W' :=
  ⟨h.map.same (hg.block B h.map.lt h3), blk_grown h.kt hg h1, blk_grown h.km hg h2, h.nt, h.nm, h.lo, hb⟩
abbrev Pv (s f a b : Int) (gt gm B : Nat) (w0 W : World) : Prop :=
  Aside0 (Pm s f a b gt gm B w0 W) ∧ W.cell? ⟨gt, 0, none⟩ = some (.int .i64 s) ∧ W.cell? ⟨gt, 1, none⟩ = some (.int .i64 f) ∧ W.cell? ⟨gt, 2, none⟩ = some (.int .i64 a) ∧ W.cell? ⟨gt, 3, none⟩ = some (.int .i64 b) ∧ W.cell? ⟨gm, 0, none⟩ = some chO ∧ W.cell? ⟨gm, 1, none⟩ = some (.map (some B))
theorem Pm.all (h : Pm s f a b gt gm B w0 W) : Pv s f a b gt gm B w0 W :=
  ⟨⟨h⟩, (blk_cell h.kt 0).trans rfl, (blk_cell h.kt 1).trans rfl, (blk_cell h.kt 2).trans rfl, (blk_cell h.kt 3).trans rfl, (blk_cell h.km 0).trans rfl, (blk_cell h.km 1).trans rfl⟩
end
theorem mv_len (s f a b x : Int) (h1 : -9223372036854775808 ≤ a + x) (h2 : a + x ≤ 9223372036854775807) (h3 : -9223372036854775808 ≤ b + x) (h4 : b + x ≤ 9223372036854775807) (n : Nat) (hn : (mvs s a b x 2).length = n) (w : World) :
    Calls Try.prog 93 #[tw s f a b, .int .i64 x] w fun e w' => ∃ (A : Option Addr) (cp : Nat), e = .returned (.slice A n cp) ∧ Below w.heap.size w w' := by
  subst hn
  refine (twins_moves s f a b x h1 h2 h3 h4 w).mono ?_
  rintro e w1 ⟨v, rfl, ho, hb⟩
  obtain ⟨A, cp, rfl, _, _⟩ := Kd.R_reads ho
  exact ⟨A, cp, rfl, hb⟩
set_option maxHeartbeats 3200000 in
set_option maxRecDepth 100000 in
theorem impl_PairMatters.calls (s f a b : Int) (r1 : List Int) (r2 : Bool) (w : World) (h : impl_PairMatters.f s f a b = some (r1, r2)) :
    Calls Try.prog 38 #[.int .i64 s, .int .i64 f, .int .i64 a, .int .i64 b] w fun e w' => ∃ v0_ : Value, e = .returned (.tuple #[v0_, .bool r2]) ∧ Kd.R (Kd.int .i64) 3 w' w.heap.size (fun _ => True) v0_ r1 ∧ Below w.heap.size w w' := by
  have HB := Aside0.mk (Below.refl w.heap.size w)
  have H := Aside0.mk (Option.some.inj h)
  clear h
  cases hg : prG s f a b with
  | true =>
    have hg' : (inn s 1 6 && inn f 1 4 && inn a 0 s && inn b 0 s) = true := hg
    obtain ⟨hs, hf, ha, hb⟩ := prG_iff.1 hg
    have h := H.out
    rw [if_pos hg] at h
    obtain ⟨h1, rfl⟩ := Prod.mk.inj h
    have H1 := Aside0.mk h1
    clear h h1 H hg
    have hsc := @store_func Try.prog (.func 78) #[] #[]
    go_enter Try.func38, Try.ntmps38
    go_wp2_with (first
      | (go_at_call 75; refine (twins_of s f a b _).mono ?_; rintro e w1 ⟨rfl, hb1⟩; have n0_ := Aside0.mk (bT HB.out hb1); clear HB; have HB := n0_; clear n0_; clear hb1; have HE := Aside0.mk (World.size_alloc w1 (.cells #[.int .i64 s, .int .i64 f, .int .i64 a, .int .i64 b] 87)))
      | (go_at_call 77; (with_reducible refine (twins_new 78 #[] #[] _).mono ?_); rintro e w3 ⟨rfl, hm3, hb3⟩; rw [HE.out] at hm3; (try rw [HE.out]); have HG := Aside0.mk (blk_below (blk_new w1 (.cells #[.int .i64 s, .int .i64 f, .int .i64 a, .int .i64 b] 87)) hb3); have HM := Aside0.mk hm3; have HB3 := Aside0.mk (bT (below_alloc HB.out (.cells #[.int .i64 s, .int .i64 f, .int .i64 a, .int .i64 b] 87)) hb3); clear hm3 hb3)
      | ((with_reducible refine gate_dst (N := 26) rfl ?_); refine Kd.R_lit (Kd.int .i64) _ 3 ?hg (N := 26) ?hd (xs := ([] : List Int)) (inner := []) (ok := fun k => k ≠ w1.heap.size + 1 + 1) (okp := fun k => k ≠ w1.heap.size + 1 + 1) ?hr ?hp (fun _ hk => hk) (Nat.ne_of_gt (blk_lt HM.out)) (Below.refl _ _) (Nat.le_refl _) (by simp) ?_; (case hd => rfl); (case hg => rfl); (case hr => first | (go_simp; done) | (go_simp; rfl)); (case hp => exact (Reps.none _ _)); intro v26 w4 ho hb hg_ hnew_; clear hg_ hnew_; have n0_ := Aside0.mk (Kd.R_lower ho HB3.out.size); have n1_ := Aside0.mk (blk_below HG.out hb); have n2_ := Aside0.mk (bT HB3.out hb); have n3_ := Aside0.mk (blk_below HM.out hb); clear HG HB3 HM hb ho; have HO := n0_; have HG := n1_; have HB3 := n2_; have HM := n3_; clear n0_ n1_ n2_ n3_))
    have HR := Aside0.mk (Kd.R_alloc HO.out (.cells #[chO, .map (some (w1.heap.size + 1 + 1))] 95))
    have HP := Aside0.mk (⟨(memo_empty HM.out).alloc _, blk_alloc HG.out _, blk_new w4 _, by omega, Nat.ne_of_gt (blk_lt HM.out), by have := HB.out.size; omega, below_alloc HB3.out _⟩ :
      Pm s f a b w1.heap.size w4.heap.size (w1.heap.size + 1 + 1) w (w4.alloc (.cells #[chO, .map (some (w1.heap.size + 1 + 1))] 95)))
    clear HO HG HM HB3 HE
    go_loopw [13, 14] (fun v13 v14 wr => ∃ (n : Nat) (x : Int) (xs : List Int), v14 = .int .i64 x ∧ x + n = f + 1 ∧ 1 ≤ x ∧ xs.length + n ≤ 4 ∧ Aside0 (xs ++ mtL s f a b n x = r1) ∧ Aside0 (Pm s f a b w1.heap.size w4.heap.size (w1.heap.size + 1 + 1) w wr) ∧ Aside0 (Kd.R (Kd.int .i64) 3 wr w.heap.size (fun k => k ≠ w1.heap.size + 1 + 1) v13 xs)) (fun _ v _ => (f + 1 - intOf v).toNat)
    case atStart => exact ⟨f.toNat, 1, [], rfl, by omega, by omega, by simp; omega, ⟨by simpa using H1.out⟩, HP, HR⟩
    case round =>
      clear HP HR H1
      obtain ⟨n, x, xs, rfl, hn, hx, hxs, HA, HP, HR⟩ := hrel
      have SV := HP.out.all
      have x0 := SV.2.1
      have x1 := SV.2.2.1
      have x2 := SV.2.2.2.1
      have x3 := SV.2.2.2.2.1
      have x4 := SV.2.2.2.2.2.1
      have x5 := SV.2.2.2.2.2.2
      clear SV
      by_cases hle : x ≤ f
      · obtain ⟨n, rfl⟩ : ∃ m : Nat, n = m + 1 := ⟨n - 1, by omega⟩
        have m1 : -9223372036854775808 ≤ a + x := by omega
        have m2 : a + x ≤ 9223372036854775807 := by omega
        have m3 : -9223372036854775808 ≤ b + x := by omega
        have m4 : b + x ≤ 9223372036854775807 := by omega
        have h0 := HA.out
        rw [mtL] at h0
        have HA := Aside0.mk h0
        clear h0
        by_cases c12 : a + x ≤ s ∧ b + x ≤ s
        · obtain ⟨c1, c2⟩ := c12
          have HL := Aside0.mk (show (mvs s a b x 2).length = 2 by simp [mvs, c1, c2])
          go_wp2
          go_region_held3 (fun W => Pv s f a b w1.heap.size w4.heap.size (w1.heap.size + 1 + 1) w W) (first | exact HP.out.drew.all | exact (HP.out.drew.below hb9).all | exact ((HP.out.drew.below hb9).below hb10).all | exact (((HP.out.drew.below hb9).below hb10).mean hm11 hb11).all | exact ((((HP.out.drew.below hb9).below hb10).mean hm11 hb11).below hb12).all | exact (((((HP.out.drew.below hb9).below hb10).mean hm11 hb11).below hb12).mean hm13 hb13).all) (first
            | (go_at_call 93; (with_reducible refine (mv_len s f a b x m1 m2 m3 m4 2 HL.out _).mono ?_); rintro e w9 ⟨A9, cp9, rfl, hb9⟩)
            | (go_at_call 95; (with_reducible refine (twins_moved0 s f a b x m1 m2 m3 m4 _).mono ?_); rintro e w10 ⟨rfl, hb10⟩)
            | (go_at_call 95; (with_reducible refine (twins_moved1 s f a b x m1 m2 m3 m4 _).mono ?_); rintro e w12 ⟨rfl, hb12⟩)
            | (go_at_call 94; (with_reducible refine (mean_all_0 s f (w1.heap.size + 1 + 1) (a + x) b _ hs hf ⟨by omega, c1⟩ hb ((HP.out.drew.below hb9).below hb10).map).mono ?_); rintro e w11 ⟨rfl, hm11, hb11⟩)
            | (go_at_call 94; (with_reducible refine (mean_all_0 s f (w1.heap.size + 1 + 1) a (b + x) _ hs hf ha ⟨by omega, c2⟩ ((((HP.out.drew.below hb9).below hb10).mean hm11 hb11).below hb12).map).mono ?_); rintro e w13 ⟨rfl, hm13, hb13⟩))
          have HP3 := Aside0.mk (((((HP.out.drew.below hb9).below hb10).mean hm11 hb11).below hb12).mean hm13 hb13)
          have HR3 := Aside0.mk (Kd.R_step (Kd.R_below (Kd.R_step (Kd.R_below (Kd.R_below (Kd.R_drew HR.out) hb9) hb10) (fun k ok hk => hb11.block k hk ok)) hb12) (fun k ok hk => hb13.block k hk ok))
          clear hb9 hb10 hb11 hb12 hb13 hm11 hm13 HP HR x0 x1 x2 x3 x4 x5
          cases hq : (!((mT 0 s f (a + x) b).1 == (mT 0 s f a (b + x)).1) || !((mT 0 s f (a + x) b).2 == (mT 0 s f a (b + x)).2)) with
          | false =>
            have HA := Aside0.mk (show xs ++ mtL s f a b n (x + 1) = r1 by have h0 := HA.out; rwa [show mtB s f a b x = false by simp only [mtB, hq, Bool.and_false], if_neg (by simp), List.nil_append] at h0)
            go_wp2
            exact ⟨⟨n, x + 1, xs, rfl, by omega, by omega, by omega, HA, HP3, HR3⟩, by simp [intOf]; omega⟩
          | true =>
            have HA := Aside0.mk (show (xs ++ [x]) ++ mtL s f a b n (x + 1) = r1 by have h0 := HA.out; rwa [show mtB s f a b x = true by simp only [mtB, hq, decide_eq_true c1, decide_eq_true c2, Bool.and_self], if_pos rfl, ← List.append_assoc] at h0)
            go_wp2_with ((with_reducible refine gate_builtin (b := .append) (xs := #[.tmp 50, .tmp 52]) rfl ?_); at_builtin; (refine Kd.R_append (Kd.int .i64) (w0 := w) w.heap.size rfl (.tmp 50) (.tmp 52) 53 3 (.int .i64 0) 8 rfl Try.underlying53 info3 rfl (by decide) (by omega) u13 xs x [.int .i64 x] (fun k => k ≠ w1.heap.size + 1 + 1) (fun _ => False) rfl (by first | rfl | (go_simp; done) | (go_simp; rfl)) ?aP (fun _ hk => hk.elim) ?aF ?aO ?aB ?aS ?aL ?_; (case aP => exact rfl); (case aB => exact HP3.out.bw); (case aF => exact (fun k hk => Nat.ne_of_gt (Nat.lt_of_lt_of_le HP3.out.map.lt hk))); (case aO => exact HR3.out); (case aS => exact HP3.out.bw.size); (case aL => omega); intro v675 w14 ho hb hg hat; have n0_ := Aside0.mk (HP3.out.grown hg hb (Kd.R_ne HR3.out HP3.out.kt (by decide)) (Kd.R_ne HR3.out HP3.out.km (by decide)) (fun e => HR3.out.1 _ e.symm rfl)); have n2_ := Aside0.mk ho; clear HP3 HR3; have HP3 := n0_; have HR3 := n2_; clear n0_ n2_; clear ho hb hg hat))
            exact ⟨⟨n, x + 1, xs ++ [x], rfl, by omega, by omega, by simp; omega, HA, HP3, HR3⟩, by simp [intOf]; omega⟩
        · have HA := Aside0.mk (show xs ++ mtL s f a b n (x + 1) = r1 by
            have h0 := HA.out
            rwa [show mtB s f a b x = false by
              unfold mtB
              by_cases c1 : a + x ≤ s
              · by_cases c2 : b + x ≤ s
                · exact absurd ⟨c1, c2⟩ c12
                · rw [decide_eq_false c2]; simp
              · rw [decide_eq_false c1]; simp, if_neg (by simp), List.nil_append] at h0)
          obtain ⟨q, hq, hL⟩ : ∃ q : Nat, (q = 0 ∨ q = 1) ∧ (mvs s a b x 2).length = q := by
            by_cases c1 : a + x ≤ s
            · by_cases c2 : b + x ≤ s
              · exact absurd ⟨c1, c2⟩ c12
              · exact ⟨1, Or.inr rfl, by simp [mvs, c1, c2]⟩
            · by_cases c2 : b + x ≤ s
              · exact ⟨1, Or.inr rfl, by simp [mvs, c1, c2]⟩
              · exact ⟨0, Or.inl rfl, by simp [mvs, c1, c2]⟩
          have HL := Aside0.mk hL
          clear hL c12
          rcases hq with rfl | rfl
          all_goals
            go_wp2
            refine start_ (n := 18) (S := fun w' => w'.cell? ⟨w1.heap.size, 0, none⟩ = some (.int .i64 s) ∧ w'.cell? ⟨w1.heap.size, 1, none⟩ = some (.int .i64 f) ∧ w'.cell? ⟨w1.heap.size, 2, none⟩ = some (.int .i64 a) ∧ w'.cell? ⟨w1.heap.size, 3, none⟩ = some (.int .i64 b)) (ds := []) #[false, false, false, false, false, false, false, false, false, false, false, false, false, false, false, false, false, false] (by kernel_rfl) rfl rfl ⟨(blk_cell (HP.out.drew.kt) 0).trans rfl, (blk_cell (HP.out.drew.kt) 1).trans rfl, (blk_cell (HP.out.drew.kt) 2).trans rfl, (blk_cell (HP.out.drew.kt) 3).trans rfl⟩ (fun hHeld => ?_)
            refine pure_ (i := 1) (N := some 33) (v := ?_) (a' := ?_) #[false, true, false, false, false, false, false, false, false, false, false, false, false, false, false, false, false, false] rfl rfl (by kernel_rfl) (fun _ _ _ h => h) (Or.inl ⟨by rfl, ?_⟩) ?_ ?_
            rotate_left
            · intro w'
              go_simp
              with_reducible rfl
            rotate_left
            · simp only [Act.put, List.setIfInBounds_toArray, List.set_cons_zero, List.set_cons_succ, i64_w, i32_w]
              rfl
            refine take_ (i := 0) (N := some 32) (v := ?_) (a' := ?_) #[true, true, false, false, false, false, false, false, false, false, false, false, false, false, false, false, false, false] rfl rfl (by kernel_rfl) (fun _ _ _ h => h) (Or.inl ⟨by rfl, ?_⟩) hHeld ?_ ?_
            rotate_left
            · rintro w' ⟨s0, s1, s2, s3⟩
              go_simp
              with_reducible rfl
            rotate_left
            · simp only [Act.put, List.setIfInBounds_toArray, List.set_cons_zero, List.set_cons_succ, i64_w, i32_w]
              rfl
            refine one_ (i := 2) (N := some 34) #[true, true, true, false, false, false, false, false, false, false, false, false, false, false, false, false, false, false] rfl rfl (by kernel_rfl) (by decide) (fun K hK => ?_)
            refine goes_ Try.func93 (by kernel_rfl) rfl #[tw s f a b, .int .i64 x] (by rfl) rfl rfl (by simp only [List.map_toArray, List.map_cons, List.map_nil]; rfl) ?_
            with_reducible refine (mv_len s f a b x m1 m2 m3 m4 _ HL.out _).mono ?_
            rintro e w9 ⟨A9, cp9, rfl, hb9⟩
            refine ⟨_, rfl, ?_⟩
            refine hK.out _ _ ⟨(blk_cell ((HP.out.drew.below hb9).kt) 0).trans rfl, (blk_cell ((HP.out.drew.below hb9).kt) 1).trans rfl, (blk_cell ((HP.out.drew.below hb9).kt) 2).trans rfl, (blk_cell ((HP.out.drew.below hb9).kt) 3).trans rfl⟩ (fun hHeld => ?_)
            clear hK K
            refine norm_ (a' := ?_) ?_ ?_
            rotate_left
            · show Act.put _ (some 34) _ = _
              simp only [Act.put, List.setIfInBounds_toArray, List.set_cons_zero, List.set_cons_succ, i64_w, i32_w]
              rfl
            refine pure_ (i := 3) (N := some 35) (v := ?_) (a' := ?_) #[true, true, true, true, false, false, false, false, false, false, false, false, false, false, false, false, false, false] rfl rfl (by kernel_rfl) (fun _ _ _ h => h) (Or.inl ⟨by rfl, ?_⟩) ?_ ?_
            rotate_left
            · intro w'
              go_simp
              with_reducible rfl
            rotate_left
            · simp only [Act.put, List.setIfInBounds_toArray, List.set_cons_zero, List.set_cons_succ, i64_w, i32_w]
              rfl
            refine pure_ (i := 4) (N := some 36) (v := ?_) (a' := ?_) #[true, true, true, true, true, false, false, false, false, false, false, false, false, false, false, false, false, false] rfl rfl (by kernel_rfl) (fun _ _ _ h => h) (Or.inl ⟨by rfl, ?_⟩) ?_ ?_
            rotate_left
            · intro w'
              go_simp
              with_reducible rfl
            rotate_left
            · simp only [Act.put, List.setIfInBounds_toArray, List.set_cons_zero, List.set_cons_succ, i64_w, i32_w]
              rfl
            refine pure_ (i := 5) (N := some 37) (v := ?_) (a' := ?_) #[true, true, true, true, true, true, false, false, false, false, false, false, false, false, false, false, false, false] rfl rfl (by kernel_rfl) (fun _ _ _ h => h) (Or.inl ⟨by rfl, ?_⟩) ?_ ?_
            rotate_left
            · intro w'
              go_simp
              with_reducible rfl
            rotate_left
            · simp only [Act.put, List.setIfInBounds_toArray, List.set_cons_zero, List.set_cons_succ, i64_w, i32_w]
              rfl
            refine pure_ (i := 6) (N := some 38) (v := undef) (a' := ?_) #[true, true, true, true, true, true, true, false, false, false, false, false, false, false, false, false, false, false] rfl rfl (by kernel_rfl) (fun _ _ _ h => h) (Or.inr ⟨by rfl, rfl⟩) ?_ ?_
            rotate_left
            · simp only [Act.put, List.setIfInBounds_toArray, List.set_cons_zero, List.set_cons_succ, i64_w, i32_w]
              rfl
            refine pure_ (i := 7) (N := some 39) (v := undef) (a' := ?_) #[true, true, true, true, true, true, true, true, false, false, false, false, false, false, false, false, false, false] rfl rfl (by kernel_rfl) (fun _ _ _ h => h) (Or.inr ⟨by rfl, rfl⟩) ?_ ?_
            rotate_left
            · simp only [Act.put, List.setIfInBounds_toArray, List.set_cons_zero, List.set_cons_succ, i64_w, i32_w]
              rfl
            refine pure_ (i := 8) (N := some 40) (v := undef) (a' := ?_) #[true, true, true, true, true, true, true, true, true, false, false, false, false, false, false, false, false, false] rfl rfl (by kernel_rfl) (fun _ _ _ h => h) (Or.inr ⟨by rfl, rfl⟩) ?_ ?_
            rotate_left
            · simp only [Act.put, List.setIfInBounds_toArray, List.set_cons_zero, List.set_cons_succ, i64_w, i32_w]
              rfl
            refine pure_ (i := 9) (N := some 41) (v := undef) (a' := ?_) #[true, true, true, true, true, true, true, true, true, true, false, false, false, false, false, false, false, false] rfl rfl (by kernel_rfl) (fun _ _ _ h => h) (Or.inr ⟨by rfl, rfl⟩) ?_ ?_
            rotate_left
            · simp only [Act.put, List.setIfInBounds_toArray, List.set_cons_zero, List.set_cons_succ, i64_w, i32_w]
              rfl
            refine pure_ (i := 10) (N := some 42) (v := undef) (a' := ?_) #[true, true, true, true, true, true, true, true, true, true, true, false, false, false, false, false, false, false] rfl rfl (by kernel_rfl) (fun _ _ _ h => h) (Or.inr ⟨by rfl, rfl⟩) ?_ ?_
            rotate_left
            · simp only [Act.put, List.setIfInBounds_toArray, List.set_cons_zero, List.set_cons_succ, i64_w, i32_w]
              rfl
            refine pure_ (i := 11) (N := some 43) (v := undef) (a' := ?_) #[true, true, true, true, true, true, true, true, true, true, true, true, false, false, false, false, false, false] rfl rfl (by kernel_rfl) (fun _ _ _ h => h) (Or.inr ⟨by rfl, rfl⟩) ?_ ?_
            rotate_left
            · simp only [Act.put, List.setIfInBounds_toArray, List.set_cons_zero, List.set_cons_succ, i64_w, i32_w]
              rfl
            refine pure_ (i := 12) (N := some 44) (v := undef) (a' := ?_) #[true, true, true, true, true, true, true, true, true, true, true, true, true, false, false, false, false, false] rfl rfl (by kernel_rfl) (fun _ _ _ h => h) (Or.inr ⟨by rfl, rfl⟩) ?_ ?_
            rotate_left
            · simp only [Act.put, List.setIfInBounds_toArray, List.set_cons_zero, List.set_cons_succ, i64_w, i32_w]
              rfl
            refine pure_ (i := 13) (N := some 45) (v := undef) (a' := ?_) #[true, true, true, true, true, true, true, true, true, true, true, true, true, true, false, false, false, false] rfl rfl (by kernel_rfl) (fun _ _ _ h => h) (Or.inr ⟨by rfl, rfl⟩) ?_ ?_
            rotate_left
            · simp only [Act.put, List.setIfInBounds_toArray, List.set_cons_zero, List.set_cons_succ, i64_w, i32_w]
              rfl
            refine pure_ (i := 14) (N := some 46) (v := undef) (a' := ?_) #[true, true, true, true, true, true, true, true, true, true, true, true, true, true, true, false, false, false] rfl rfl (by kernel_rfl) (fun _ _ _ h => h) (Or.inr ⟨by rfl, rfl⟩) ?_ ?_
            rotate_left
            · simp only [Act.put, List.setIfInBounds_toArray, List.set_cons_zero, List.set_cons_succ, i64_w, i32_w]
              rfl
            refine pure_ (i := 15) (N := some 47) (v := undef) (a' := ?_) #[true, true, true, true, true, true, true, true, true, true, true, true, true, true, true, true, false, false] rfl rfl (by kernel_rfl) (fun _ _ _ h => h) (Or.inr ⟨by rfl, rfl⟩) ?_ ?_
            rotate_left
            · simp only [Act.put, List.setIfInBounds_toArray, List.set_cons_zero, List.set_cons_succ, i64_w, i32_w]
              rfl
            refine pure_ (i := 16) (N := some 48) (v := undef) (a' := ?_) #[true, true, true, true, true, true, true, true, true, true, true, true, true, true, true, true, true, false] rfl rfl (by kernel_rfl) (fun _ _ _ h => h) (Or.inr ⟨by rfl, rfl⟩) ?_ ?_
            rotate_left
            · simp only [Act.put, List.setIfInBounds_toArray, List.set_cons_zero, List.set_cons_succ, i64_w, i32_w]
              rfl
            refine pure_ (i := 17) (N := some 49) (v := ?_) (a' := ?_) #[true, true, true, true, true, true, true, true, true, true, true, true, true, true, true, true, true, true] rfl rfl (by kernel_rfl) (fun _ _ _ h => h) (Or.inl ⟨by rfl, ?_⟩) ?_ ?_
            rotate_left
            · intro w'
              go_simp
              with_reducible rfl
            rotate_left
            · simp only [Act.put, List.setIfInBounds_toArray, List.set_cons_zero, List.set_cons_succ, i64_w, i32_w]
              rfl
            refine done_ (by kernel_rfl) ?_
            have HP3 := Aside0.mk (HP.out.drew.below hb9)
            have HR3 := Aside0.mk (Kd.R_below (Kd.R_drew HR.out) hb9)
            clear hb9 HP HR x0 x1 x2 x3 x4 x5
            go_wp2
            exact ⟨⟨n, x + 1, xs, rfl, by omega, by omega, by omega, HA, HP3, HR3⟩, by simp [intOf]; omega⟩
      · obtain rfl : n = 0 := by omega
        have hh := HA.out
        simp only [mtL, List.append_nil] at hh
        subst hh
        go_wp2
        go_ret2
        exact ⟨_, rfl, Kd.R_mono HR.out (fun _ _ => trivial), HP.out.bw⟩
  | false =>
    have hg' : (inn s 1 6 && inn f 1 4 && inn a 0 s && inn b 0 s) = false := hg
    have h := H.out
    rw [if_neg (by rw [hg]; simp)] at h
    obtain ⟨rfl, rfl⟩ := Prod.mk.inj h
    clear hg H h
    go_enter Try.func38, Try.ntmps38
    go_wp2_with (go_at_call 75; refine (twins_of s f a b _).mono ?_; rintro e w1 ⟨rfl, hb1⟩; have n0_ := Aside0.mk (bT HB.out hb1); clear HB; have HB := n0_; clear n0_; clear hb1)
    go_ret2
    exact ⟨_, rfl, Kd.R_nil _ _ _ _ _, below_alloc HB.out _⟩
end Go.Proofs.Ytnoejflancomaaa.P
end

section
namespace Go.Proofs.Ytnoejflancomaaa.P
open Go.RowKit Go.Proofs.YtnoejflancomaaaW.PrintWords Go.Proofs.YtnoejflancomaaaW.PrintLast Go.Proofs.YtnoejflancomaaaW.PrintMore
attribute [local go_sem] max2_int min2_int max_two min_two max_three min_three max_four min_four
set_option linter.unusedVariables false
set_option linter.unusedSimpArgs false
def laws_eqIntS.l0 : Nat → List Int → List Int → Int → Option (Bool)
  | 0, _, _, _ => none
  | k + 1, x0, x1, x5 => if x5 < (x0.length : Int) then (if 0 ≤ x5 then (if x5 < (x1.length : Int) then (if (rd x0 x5) = (rd x1 x5) then (laws_eqIntS.l0 k x0 x1 (wrap64 (x5 + 1))) else (some false)) else (none)) else (none)) else (some true)
def laws_eqIntS.f (k : Nat) (l0 : List Int) (l1 : List Int) : Option (Bool) := if (l0.length : Int) = (l1.length : Int) then (laws_eqIntS.l0 k l0 l1 0) else (some false)
theorem laws_eqIntS.mono_l : ∀ k, (∀ y0 y1 y2, LeO (laws_eqIntS.l0 k y0 y1 y2) (laws_eqIntS.l0 (k + 1) y0 y1 y2))
  | 0 => fun _ _ _ r h => by simp [laws_eqIntS.l0] at h
  | k + 1 => by
    have ih0 := laws_eqIntS.mono_l k
    · intro y0 y1 y2
      unfold laws_eqIntS.l0
      repeat' first
      | (with_reducible exact ih0 _ _ _)
      | (with_reducible exact LeO.refl _)
      | (with_reducible exact LeO.none _)
      | (with_reducible refine LeO.ite ?_ ?_)
      | (with_reducible refine LeO.bind ?_ (fun _ => ?_))
      | exact ih0 _ _ _
      | exact LeO.none _
      | refine LeO.ite ?_ ?_
      | refine LeO.bind ?_ (fun _ => ?_)
theorem laws_eqIntS.mono : ∀ a0 a1 k, LeO (laws_eqIntS.f k a0 a1) (laws_eqIntS.f (k + 1) a0 a1) := by
  intro a0 a1 k
  have ih0 := laws_eqIntS.mono_l k
  unfold laws_eqIntS.f
  repeat' first
      | (with_reducible exact ih0 _ _ _)
      | (with_reducible exact LeO.refl _)
      | (with_reducible exact LeO.none _)
      | (with_reducible refine LeO.ite ?_ ?_)
      | (with_reducible refine LeO.bind ?_ (fun _ => ?_))
      | exact ih0 _ _ _
      | exact LeO.none _
      | refine LeO.ite ?_ ?_
      | refine LeO.bind ?_ (fun _ => ?_)
set_option maxHeartbeats 8000000 in
set_option maxRecDepth 100000 in
theorem laws_eqIntS.calls (k : Nat) (A0 : Option Addr) (c0 : Nat) (l0 : List Int) (A1 : Option Addr) (c1 : Nat) (l1 : List Int) (r : Bool) (w : World) (hr0 : Kd.C (Kd.int .i64) w A0 l0.length l0) (hc0 : l0.length ≤ c0) (hr1 : Kd.C (Kd.int .i64) w A1 l1.length l1) (hc1 : l1.length ≤ c1) (h : laws_eqIntS.f k l0 l1 = some r) :
    Calls Try.prog 39 #[.slice A0 l0.length c0, .slice A1 l1.length c1] w fun e w' => e = .returned (.bool r) ∧ Drawn0 w w' := by
  have HR0 := Aside0.mk hr0
  have HC0 := Aside0.mk hc0
  clear hr0 hc0
  have HR1 := Aside0.mk hr1
  have HC1 := Aside0.mk hc1
  clear hr1 hc1
  have H : (if (l0.length : Int) = (l1.length : Int) then (laws_eqIntS.l0 k l0 l1 0) else (some false)) = some r := h
  clear h
  by_cases c3 : (l0.length : Int) = (l1.length : Int)
  · rw [if_pos c3] at H
    have c3b0 : ((l0.length : Int) == (l1.length : Int)) = true := beq_iff_eq.mpr c3
    have c3b1 : ((l0.length : Int) != (l1.length : Int)) = false := bne_eq_false_iff_eq.mpr c3
    have c3b2 : (l0.length == l1.length) = true := by first | simpa using c3 | (simp at c3 ⊢; omega)
    clear c3
    have H' := Aside0.mk H
    clear H
    go_enter Try.func39, Try.ntmps39
    go_wp2
    repeat (go_quiet (fail); try go_wp2)
    go_loopg [5] k (fun kq v5 w' => ∃ (x5_1 : Int), v5 = .int .i64 x5_1 ∧ Aside0 (laws_eqIntS.l0 kq l0 l1 x5_1 = some r) ∧ Aside0 (kq ≤ k) ∧ Drawn0 w w')
    case atStart => exact ⟨(0), (by first | rfl | (simp; done) | (simp [*]; done)), H', ⟨Nat.le_refl _⟩, by repeat (first | exact Drawn0.refl _ | apply Drawn0.step)⟩
    case round =>
      clear H'
      try clear c1
      try clear p2
      try clear c3
      try clear c3b0
      try clear c3b1
      try clear c3b2
      obtain ⟨x5_1, rfl, HA, HK1, ⟨m1, rfl⟩⟩ := hrel
      cases gk with
      | zero => exact absurd HA.out (by simp [laws_eqIntS.l0])
      | succ k1 =>
        have H := HA.out
        clear HA
        simp only [laws_eqIntS.l0] at H
        by_cases c4 : x5_1 < (l0.length : Int)
        · rw [if_pos c4] at H
          have c4b0 : decide (x5_1 < (l0.length : Int)) = true := decide_eq_true c4
          clear c4
          by_cases c5 : 0 ≤ x5_1
          · rw [if_pos c5] at H
            have c5b0 : decide (0 ≤ x5_1) = true := decide_eq_true c5
            clear c5
            by_cases c6 : x5_1 < (l1.length : Int)
            · rw [if_pos c6] at H
              have c6b0 : decide (x5_1 < (l1.length : Int)) = true := decide_eq_true c6
              clear c6
              by_cases c7 : (rd l0 x5_1) = (rd l1 x5_1)
              · rw [if_pos c7] at H
                have c7b0 : ((rd l0 x5_1) == (rd l1 x5_1)) = true := beq_iff_eq.mpr c7
                have c7b1 : ((rd l0 x5_1) != (rd l1 x5_1)) = false := bne_eq_false_iff_eq.mpr c7
                clear c7
                have H' := Aside0.mk H
                clear H
                have p443 : 0 ≤ (x5_1 : Int) := of_decide_eq_true (by first | (with_reducible assumption) | assumption)
                have q443 : x5_1 < (l0.length : Int) := of_decide_eq_true (by first | (with_reducible assumption) | assumption)
                obtain ⟨ad443, e443, hx443_0⟩ := Kd.at_int HR0.out x5_1 p443 q443
                cases e443
                replace p443 := eq_true p443
                replace q443 := eq_true q443
                have p444 : 0 ≤ (x5_1 : Int) := of_decide_eq_true (by first | (with_reducible assumption) | assumption)
                have q444 : x5_1 < (l1.length : Int) := of_decide_eq_true (by first | (with_reducible assumption) | assumption)
                obtain ⟨ad444, e444, hx444_0⟩ := Kd.at_int HR1.out x5_1 p444 q444
                cases e444
                replace p444 := eq_true p444
                replace q444 := eq_true q444
                go_wp2
                repeat (go_quiet (fail); try go_wp2)
                go_roundg k1
                case measure => have := HK1.out; omega
                case rel => exact ⟨(wrap64 (x5_1 + 1)), (by first | rfl | (simp; done) | (simp [*]; done)), H', ⟨by have := HK1.out; omega⟩, by repeat (first | exact Drawn0.refl _ | apply Drawn0.step)⟩
              · rw [if_neg c7] at H
                have c7b0 : ((rd l0 x5_1) == (rd l1 x5_1)) = false := beq_eq_false_iff_ne.mpr c7
                have c7b1 : ((rd l0 x5_1) != (rd l1 x5_1)) = true := bne_iff_ne.mpr c7
                obtain rfl := Option.some.inj H
                have p443 : 0 ≤ (x5_1 : Int) := of_decide_eq_true (by first | (with_reducible assumption) | assumption)
                have q443 : x5_1 < (l0.length : Int) := of_decide_eq_true (by first | (with_reducible assumption) | assumption)
                obtain ⟨ad443, e443, hx443_0⟩ := Kd.at_int HR0.out x5_1 p443 q443
                cases e443
                replace p443 := eq_true p443
                replace q443 := eq_true q443
                have p444 : 0 ≤ (x5_1 : Int) := of_decide_eq_true (by first | (with_reducible assumption) | assumption)
                have q444 : x5_1 < (l1.length : Int) := of_decide_eq_true (by first | (with_reducible assumption) | assumption)
                obtain ⟨ad444, e444, hx444_0⟩ := Kd.at_int HR1.out x5_1 p444 q444
                cases e444
                replace p444 := eq_true p444
                replace q444 := eq_true q444
                go_wp2
                repeat (go_quiet (fail); try go_wp2)
                go_ret
                exact ⟨by first | rfl | (simp; done) | (simp [*]; done), by repeat (first | exact Drawn0.refl _ | apply Drawn0.step)⟩
            · rw [if_neg c6] at H
              exact absurd H (by simp)
          · rw [if_neg c5] at H
            exact absurd H (by simp)
        · rw [if_neg c4] at H
          have c4b0 : decide (x5_1 < (l0.length : Int)) = false := decide_eq_false c4
          clear c4
          obtain rfl := Option.some.inj H
          go_wp2
          repeat (go_quiet (fail); try go_wp2)
          go_ret
          exact ⟨by first | rfl | (simp; done) | (simp [*]; done), by repeat (first | exact Drawn0.refl _ | apply Drawn0.step)⟩
  · rw [if_neg c3] at H
    have c3b0 : ((l0.length : Int) == (l1.length : Int)) = false := beq_eq_false_iff_ne.mpr c3
    have c3b1 : ((l0.length : Int) != (l1.length : Int)) = true := bne_iff_ne.mpr c3
    have c3b2 : (l0.length == l1.length) = false := by first | simpa using c3 | (simp at c3 ⊢; omega)
    obtain rfl := Option.some.inj H
    go_enter Try.func39, Try.ntmps39
    go_wp2
    repeat (go_quiet (fail); try go_wp2)
    go_ret
    exact ⟨by first | rfl | (simp; done) | (simp [*]; done), by repeat (first | exact Drawn0.refl _ | apply Drawn0.step)⟩
end Go.Proofs.Ytnoejflancomaaa.P
end
