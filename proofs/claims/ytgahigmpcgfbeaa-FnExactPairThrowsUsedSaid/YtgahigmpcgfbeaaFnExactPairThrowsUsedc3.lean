/- The program's PairThrowsUsed returns what the reference's returns, for all pairs and lists of throws, and leaves the throws as they were. -/
import Derived.Handy
import Derived.Test.YtgahigmpcgfbeaaFnExactPairThrowsUsedc2
section
namespace Go.Proofs.Ytgahigmpcgfbeaa.P
open Go.RowKit Go.Proofs.YtgahigmpcgfbeaaW.PrintWords Go.Proofs.YtgahigmpcgfbeaaW.PrintLast Go.Proofs.YtgahigmpcgfbeaaW.PrintMore
attribute [local go_sem] max2_int min2_int max_two min_two max_three min_three max_four min_four
set_option linter.unusedVariables false
set_option linter.unusedSimpArgs false
def impl_fraction_times.f (k : Nat) (a0_0 : Int) (a0_1 : Int) (a1_0 : Int) (a1_1 : Int) : Option (Int × Int) := (impl_fractionOf.f k a0_0 a1_1).bind fun bt1092 => ((impl_fractionOf.f k a1_0 a0_1).bind fun bt1094 => (some (wrap64 (bt1092.1 * bt1094.1), wrap64 (bt1092.2 * bt1094.2))))
theorem impl_fraction_times.mono : ∀ a0 a1 a2 a3 k, LeO (impl_fraction_times.f k a0 a1 a2 a3) (impl_fraction_times.f (k + 1) a0 a1 a2 a3) := by
  intro a0 a1 a2 a3 k
  unfold impl_fraction_times.f
  repeat' first
      | (with_reducible exact impl_fractionOf.mono _ _ _)
      | (with_reducible exact LeO.refl _)
      | (with_reducible exact LeO.none _)
      | (with_reducible refine LeO.ite ?_ ?_)
      | (with_reducible refine LeO.bind ?_ (fun _ => ?_))
      | exact impl_fractionOf.mono _ _ _
      | exact LeO.none _
      | refine LeO.ite ?_ ?_
      | refine LeO.bind ?_ (fun _ => ?_)
def impl_fraction_times.T1 : Bool × List (List Nat × List Nat) := (true, [([], []), ([0], [0]), ([], []), ([2], [2]), ([1, 3], [1, 3]), ([], []), ([5], [5]), ([], []), ([7], [7]), ([6, 8, 4], [6, 8]), ([], []), ([], []), ([10, 4, 9, 0, 1, 2, 3, 4, 10, 11], [4, 10]), ([11, 9, 12, 0, 1, 2, 3, 4, 5, 6, 7, 8, 9, 10, 11, 12], [9, 11])])
def impl_fraction_times.B1 : List Nat := [0, 1, 0, 4, 15, 0, 32, 0, 128, 511, 0, 0, 4095, 8191]
theorem impl_fraction_times.tab1 : rtab .any (opsOf Try.f301 1) = impl_fraction_times.T1 := by kernel_rfl
theorem impl_fraction_times.bits1 : waitsOk impl_fraction_times.T1.2 impl_fraction_times.B1 = true := by kernel_rfl
set_option maxHeartbeats 8000000 in
set_option maxRecDepth 100000 in
theorem impl_fraction_times.calls (k : Nat) (a0_0 : Int) (a0_1 : Int) (a1_0 : Int) (a1_1 : Int) (r1 : Int) (r2 : Int) (w : World) (h : impl_fraction_times.f k a0_0 a0_1 a1_0 a1_1 = some (r1, r2)) :
    Calls Try.prog 301 #[.agg #[.int .i64 a0_0, .int .i64 a0_1], .agg #[.int .i64 a1_0, .int .i64 a1_1]] w fun e w' => e = .returned (.agg #[.int .i64 r1, .int .i64 r2]) ∧ Below w.heap.size w w' := by
  have hu147 := Try.underlying147
  have HB := Aside0.mk (Below.refl w.heap.size w)
  have H : ((impl_fractionOf.f k a0_0 a1_1).bind fun bt1092 => ((impl_fractionOf.f k a1_0 a0_1).bind fun bt1094 => (some (wrap64 (bt1092.1 * bt1094.1), wrap64 (bt1092.2 * bt1094.2))))) = some (r1, r2) := h
  clear h
  replace H := Option.bind_eq_some_iff.mp H
  obtain ⟨⟨t1092, t1093⟩, A30, H⟩ := H
  replace H : ((impl_fractionOf.f k a1_0 a0_1).bind fun bt1094 => (some (wrap64 (t1092 * bt1094.1), wrap64 (t1093 * bt1094.2)))) = some (r1, r2) := H
  have A3 := Aside0.mk A30
  clear A30
  replace H := Option.bind_eq_some_iff.mp H
  obtain ⟨⟨t1094, t1095⟩, A40, H⟩ := H
  replace H : (some (wrap64 (t1092 * t1094), wrap64 (t1093 * t1095))) = some (r1, r2) := H
  have A4 := Aside0.mk A40
  clear A40
  simp only [Option.some.injEq, Prod.mk.injEq] at H
  obtain ⟨rfl, rfl⟩ := H
  go_enter Try.func301, Try.ntmps301
  try go_wp2_with (first | ((with_reducible refine gate_dst (N := 2) rfl ?_); refine box_event ?hg (N := 2) ?hd (cs := #[.int .i64 a0_0, .int .i64 a0_1]) (t := 147) ?hr ?_; (case hd => rfl); (case hg => rfl); (case hr => first | (go_simp; done) | (go_simp; rfl)); intro gb1089 hg w5 hbox hb; have n0_ := Aside0.mk (below_step (by repeat (first | (with_reducible first | exact HB.out | apply below_alloc | apply pw_below_drewN | apply below_drew1) | exact HB.out)) hb); have n1_ := Aside0.mk (hbox); have n2_ := Aside0.mk ((by rw [hg]; exact (below_size (by repeat (first | (with_reducible first | exact HB.out | apply below_alloc | apply pw_below_drewN | apply below_drew1) | exact HB.out))) : w.heap.size ≤ gb1089)); have n3_ := Aside0.mk ((by rw [hg]; exact (below_size (by repeat (first | (with_reducible first | exact HB.out | apply below_alloc | apply pw_below_drewN | apply below_drew1) | exact HB.out))) : w.heap.size ≤ gb1089)); clear HB; have HB := n0_; have BK1089 := n1_; have GW1089 := n2_; have GE1089 := n3_; clear n0_ n1_ n2_ n3_; clear hb hbox hg) | ((with_reducible refine gate_dst (N := 3) rfl ?_); refine box_event ?hg (N := 3) ?hd (cs := #[.int .i64 a1_0, .int .i64 a1_1]) (t := 147) ?hr ?_; (case hd => rfl); (case hg => rfl); (case hr => first | (go_simp; done) | (go_simp; rfl)); intro gb1090 hg w6 hbox hb; have n0_ := Aside0.mk (blk_below (g := gb1089) (o := .cells #[.int .i64 a0_0, .int .i64 a0_1] 147 (0, 0)) (by (with_reducible repeat (first | refine blk_drewN ?_ _ | refine blk_drew ?_ | refine blk_alloc ?_ _)); exact BK1089.out) hb); have n1_ := Aside0.mk (below_step (by repeat (first | (with_reducible first | exact HB.out | apply below_alloc | apply pw_below_drewN | apply below_drew1 | refine below_set ?_ GE1089.out) | exact HB.out)) hb); have n2_ := Aside0.mk (hbox); have n3_ := Aside0.mk ((by rw [hg]; exact (below_size (by repeat (first | (with_reducible first | exact HB.out | apply below_alloc | apply pw_below_drewN | apply below_drew1 | refine below_set ?_ GE1089.out) | exact HB.out))) : w.heap.size ≤ gb1090)); have n4_ := Aside0.mk ((by rw [hg]; exact (below_size (by repeat (first | (with_reducible first | exact HB.out | apply below_alloc | apply pw_below_drewN | apply below_drew1 | refine below_set ?_ GE1089.out) | exact HB.out))) : w.heap.size ≤ gb1090)); have n5_ := Aside0.mk ((by rw [hg]; exact Nat.ne_of_lt (blk_lt (g := gb1089) (o := .cells #[.int .i64 a0_0, .int .i64 a0_1] 147 (0, 0)) (by (with_reducible repeat (first | refine blk_drewN ?_ _ | refine blk_drew ?_ | refine blk_alloc ?_ _)); exact BK1089.out)) : gb1089 ≠ gb1090)); have n6_ := Aside0.mk ((by rw [hg]; exact Nat.ne_of_gt (blk_lt (g := gb1089) (o := .cells #[.int .i64 a0_0, .int .i64 a0_1] 147 (0, 0)) (by (with_reducible repeat (first | refine blk_drewN ?_ _ | refine blk_drew ?_ | refine blk_alloc ?_ _)); exact BK1089.out)) : gb1090 ≠ gb1089)); clear BK1089; clear HB; have BK1089 := n0_; have HB := n1_; have BK1090 := n2_; have GW1090 := n3_; have GE1090 := n4_; have NB1089_1090 := n5_; have NB1090_1089 := n6_; clear n0_ n1_ n2_ n3_ n4_ n5_ n6_; clear hb hbox hg) | ((with_reducible refine gate_dst (N := 4) rfl ?_); refine box_event ?hg (N := 4) ?hd (cs := #[.int .i64 0, .int .i64 0]) (t := 147) ?hr ?_; (case hd => rfl); (case hg => rfl); (case hr => first | (go_simp; done) | (go_simp; rfl)); intro gb1091 hg w7 hbox hb; have n0_ := Aside0.mk (blk_below (g := gb1089) (o := .cells #[.int .i64 a0_0, .int .i64 a0_1] 147 (0, 0)) (by (with_reducible repeat (first | refine blk_drewN ?_ _ | refine blk_drew ?_ | refine blk_alloc ?_ _)); exact BK1089.out) hb); have n1_ := Aside0.mk (blk_below (g := gb1090) (o := .cells #[.int .i64 a1_0, .int .i64 a1_1] 147 (0, 0)) (by (with_reducible repeat (first | refine blk_drewN ?_ _ | refine blk_drew ?_ | refine blk_alloc ?_ _)); exact BK1090.out) hb); have n2_ := Aside0.mk (below_step (by repeat (first | (with_reducible first | exact HB.out | apply below_alloc | apply pw_below_drewN | apply below_drew1 | refine below_set ?_ GE1089.out | refine below_set ?_ GE1090.out) | exact HB.out)) hb); have n3_ := Aside0.mk (hbox); have n4_ := Aside0.mk ((by rw [hg]; exact (below_size (by repeat (first | (with_reducible first | exact HB.out | apply below_alloc | apply pw_below_drewN | apply below_drew1 | refine below_set ?_ GE1089.out | refine below_set ?_ GE1090.out) | exact HB.out))) : w.heap.size ≤ gb1091)); have n5_ := Aside0.mk ((by rw [hg]; exact (below_size (by repeat (first | (with_reducible first | exact HB.out | apply below_alloc | apply pw_below_drewN | apply below_drew1 | refine below_set ?_ GE1089.out | refine below_set ?_ GE1090.out) | exact HB.out))) : w.heap.size ≤ gb1091)); have n6_ := Aside0.mk ((by rw [hg]; exact Nat.ne_of_lt (blk_lt (g := gb1089) (o := .cells #[.int .i64 a0_0, .int .i64 a0_1] 147 (0, 0)) (by (with_reducible repeat (first | refine blk_drewN ?_ _ | refine blk_drew ?_ | refine blk_alloc ?_ _)); exact BK1089.out)) : gb1089 ≠ gb1091)); have n7_ := Aside0.mk ((by rw [hg]; exact Nat.ne_of_gt (blk_lt (g := gb1089) (o := .cells #[.int .i64 a0_0, .int .i64 a0_1] 147 (0, 0)) (by (with_reducible repeat (first | refine blk_drewN ?_ _ | refine blk_drew ?_ | refine blk_alloc ?_ _)); exact BK1089.out)) : gb1091 ≠ gb1089)); have n8_ := Aside0.mk ((by rw [hg]; exact Nat.ne_of_lt (blk_lt (g := gb1090) (o := .cells #[.int .i64 a1_0, .int .i64 a1_1] 147 (0, 0)) (by (with_reducible repeat (first | refine blk_drewN ?_ _ | refine blk_drew ?_ | refine blk_alloc ?_ _)); exact BK1090.out)) : gb1090 ≠ gb1091)); have n9_ := Aside0.mk ((by rw [hg]; exact Nat.ne_of_gt (blk_lt (g := gb1090) (o := .cells #[.int .i64 a1_0, .int .i64 a1_1] 147 (0, 0)) (by (with_reducible repeat (first | refine blk_drewN ?_ _ | refine blk_drew ?_ | refine blk_alloc ?_ _)); exact BK1090.out)) : gb1091 ≠ gb1090)); clear BK1089; clear BK1090; clear HB; have BK1089 := n0_; have BK1090 := n1_; have HB := n2_; have BK1091 := n3_; have GW1091 := n4_; have GE1091 := n5_; have NB1089_1091 := n6_; have NB1091_1089 := n7_; have NB1090_1091 := n8_; have NB1091_1090 := n9_; clear n0_ n1_ n2_ n3_ n4_ n5_ n6_ n7_ n8_ n9_; clear hb hbox hg))
  have n0_ := Aside0.mk (blk_drew BK1089.out)
  have n1_ := Aside0.mk (blk_drew BK1090.out)
  have n2_ := Aside0.mk (blk_drew BK1091.out)
  have n3_ := Aside0.mk (below_drew1 HB.out)
  clear BK1089
  clear BK1090
  clear BK1091
  clear HB
  have BK1089 := n0_
  have BK1090 := n1_
  have BK1091 := n2_
  have HB := n3_
  clear n0_ n1_ n2_ n3_
  refine start_ (n := 14) (S := fun w' => w'.cell? ⟨gb1089, 0, none⟩ = some (.int .i64 a0_0) ∧ w'.cell? ⟨gb1089, 1, none⟩ = some (.int .i64 a0_1) ∧ w'.cell? ⟨gb1090, 0, none⟩ = some (.int .i64 a1_0) ∧ w'.cell? ⟨gb1090, 1, none⟩ = some (.int .i64 a1_1)) (ds := []) #[false, false, false, false, false, false, false, false, false, false, false, false, false, false] (by kernel_rfl) rfl rfl ⟨(blk_cell BK1089.out 0).trans rfl, (blk_cell BK1089.out 1).trans rfl, (blk_cell BK1090.out 0).trans rfl, (blk_cell BK1090.out 1).trans rfl⟩ (fun hHeld => ?_); refine with_tabW impl_fraction_times.tab1 impl_fraction_times.bits1 (fun HT_ HW_ => ?_)
  generalize w7.drew = w8 at BK1089 BK1090 BK1091 HB hHeld ⊢
  refine pure_ (i := 0) (N := some 7) (v := ?_) (a' := ?_) #[true, false, false, false, false, false, false, false, false, false, false, false, false, false] rfl rfl (any_of HT_.out (by kernel_rfl)) (fun _ _ _ h => h) (Or.inl ⟨by rfl, ?_⟩) ?_ ?_
  rotate_left
  · intro w'
    go_simp
    with_reducible rfl
  rotate_left
  · simp only [Act.put, List.setIfInBounds_toArray, List.set_cons_zero, List.set_cons_succ, i64_w, i32_w]
    rfl
  refine pure_ (i := 2) (N := some 9) (v := ?_) (a' := ?_) #[true, false, true, false, false, false, false, false, false, false, false, false, false, false] rfl rfl (any_of HT_.out (by kernel_rfl)) (fun _ _ _ h => h) (Or.inl ⟨by rfl, ?_⟩) ?_ ?_
  rotate_left
  · intro w'
    go_simp
    with_reducible rfl
  rotate_left
  · simp only [Act.put, List.setIfInBounds_toArray, List.set_cons_zero, List.set_cons_succ, i64_w, i32_w]
    rfl
  refine pure_ (i := 5) (N := some 12) (v := ?_) (a' := ?_) #[true, false, true, false, false, true, false, false, false, false, false, false, false, false] rfl rfl (any_of HT_.out (by kernel_rfl)) (fun _ _ _ h => h) (Or.inl ⟨by rfl, ?_⟩) ?_ ?_
  rotate_left
  · intro w'
    go_simp
    with_reducible rfl
  rotate_left
  · simp only [Act.put, List.setIfInBounds_toArray, List.set_cons_zero, List.set_cons_succ, i64_w, i32_w]
    rfl
  refine pure_ (i := 7) (N := some 14) (v := ?_) (a' := ?_) #[true, false, true, false, false, true, false, true, false, false, false, false, false, false] rfl rfl (any_of HT_.out (by kernel_rfl)) (fun _ _ _ h => h) (Or.inl ⟨by rfl, ?_⟩) ?_ ?_
  rotate_left
  · intro w'
    go_simp
    with_reducible rfl
  rotate_left
  · simp only [Act.put, List.setIfInBounds_toArray, List.set_cons_zero, List.set_cons_succ, i64_w, i32_w]
    rfl
  refine take_ (i := 1) (N := some 8) (v := ?_) (a' := ?_) #[true, true, true, false, false, true, false, true, false, false, false, false, false, false] rfl rfl (take_ofW HT_.out HW_.out (by kernel_rfl)) (fun _ _ _ h => h) (Or.inl ⟨by rfl, ?_⟩) hHeld ?_ ?_
  rotate_left
  · rintro w' ⟨s0, s1, s2, s3⟩
    go_simp
    with_reducible rfl
  rotate_left
  · simp only [Act.put, List.setIfInBounds_toArray, List.set_cons_zero, List.set_cons_succ, i64_w, i32_w]
    rfl
  refine take_ (i := 3) (N := some 10) (v := ?_) (a' := ?_) #[true, true, true, true, false, true, false, true, false, false, false, false, false, false] rfl rfl (take_ofW HT_.out HW_.out (by kernel_rfl)) (fun _ _ _ h => h) (Or.inl ⟨by rfl, ?_⟩) hHeld ?_ ?_
  rotate_left
  · rintro w' ⟨s0, s1, s2, s3⟩
    go_simp
    with_reducible rfl
  rotate_left
  · simp only [Act.put, List.setIfInBounds_toArray, List.set_cons_zero, List.set_cons_succ, i64_w, i32_w]
    rfl
  refine take_ (i := 6) (N := some 13) (v := ?_) (a' := ?_) #[true, true, true, true, false, true, true, true, false, false, false, false, false, false] rfl rfl (take_ofW HT_.out HW_.out (by kernel_rfl)) (fun _ _ _ h => h) (Or.inl ⟨by rfl, ?_⟩) hHeld ?_ ?_
  rotate_left
  · rintro w' ⟨s0, s1, s2, s3⟩
    go_simp
    with_reducible rfl
  rotate_left
  · simp only [Act.put, List.setIfInBounds_toArray, List.set_cons_zero, List.set_cons_succ, i64_w, i32_w]
    rfl
  refine take_ (i := 8) (N := some 15) (v := ?_) (a' := ?_) #[true, true, true, true, false, true, true, true, true, false, false, false, false, false] rfl rfl (take_ofW HT_.out HW_.out (by kernel_rfl)) (fun _ _ _ h => h) (Or.inl ⟨by rfl, ?_⟩) hHeld ?_ ?_
  rotate_left
  · rintro w' ⟨s0, s1, s2, s3⟩
    go_simp
    with_reducible rfl
  rotate_left
  · simp only [Act.put, List.setIfInBounds_toArray, List.set_cons_zero, List.set_cons_succ, i64_w, i32_w]
    rfl
  refine join_ (σ := Nat × Nat) 2 #[true, true, true, true, true, true, true, true, true, true, true, true, false, false] (fun s_ => [(11, .agg #[.int .i64 t1092, .int .i64 t1093]), (16, .agg #[.int .i64 t1094, .int .i64 t1095]), (5, .pointer (some ⟨s_.1, 0, none⟩)), (6, .pointer (some ⟨s_.2, 0, none⟩))]) (fun s_ w' => (w'.cell? ⟨gb1089, 0, none⟩ = some (.int .i64 a0_0) ∧ w'.cell? ⟨gb1089, 1, none⟩ = some (.int .i64 a0_1) ∧ w'.cell? ⟨gb1090, 0, none⟩ = some (.int .i64 a1_0) ∧ w'.cell? ⟨gb1090, 1, none⟩ = some (.int .i64 a1_1)) ∧ (w'.heap[gb1089]? = some (.cells #[.int .i64 a0_0, .int .i64 a0_1] 147 (0, 0))) ∧ (w'.heap[gb1090]? = some (.cells #[.int .i64 a1_0, .int .i64 a1_1] 147 (0, 0))) ∧ (w'.heap[gb1091]? = some (.cells #[.int .i64 0, .int .i64 0] 147 (0, 0))) ∧ (w'.heap[s_.1]? = some (.cells #[.int .i64 0, .int .i64 0] 147 (0, 0))) ∧ (w'.heap[s_.2]? = some (.cells #[.int .i64 0, .int .i64 0] 147 (0, 0))) ∧ (w.heap.size ≤ s_.1) ∧ (w.heap.size ≤ s_.1) ∧ (gb1089 ≠ s_.1) ∧ (s_.1 ≠ gb1089) ∧ (gb1090 ≠ s_.1) ∧ (s_.1 ≠ gb1090) ∧ (gb1091 ≠ s_.1) ∧ (s_.1 ≠ gb1091) ∧ (s_.2 ≠ s_.1) ∧ (s_.1 ≠ s_.2) ∧ (w.heap.size ≤ s_.2) ∧ (w.heap.size ≤ s_.2) ∧ (gb1089 ≠ s_.2) ∧ (s_.2 ≠ gb1089) ∧ (gb1090 ≠ s_.2) ∧ (s_.2 ≠ gb1090) ∧ (gb1091 ≠ s_.2) ∧ (s_.2 ≠ gb1091) ∧ (Below w.heap.size w w')) ?_ ?_
  rotate_left
  · intro hJ4_9_10_11
    refine join_ (σ := Nat) 3 #[true, true, true, true, true, true, true, true, true, true, true, false, false, false] (fun s_ => [(11, .agg #[.int .i64 t1092, .int .i64 t1093]), (16, .agg #[.int .i64 t1094, .int .i64 t1095]), (5, .pointer (some ⟨s_, 0, none⟩))]) (fun s_ w' => (w'.cell? ⟨gb1089, 0, none⟩ = some (.int .i64 a0_0) ∧ w'.cell? ⟨gb1089, 1, none⟩ = some (.int .i64 a0_1) ∧ w'.cell? ⟨gb1090, 0, none⟩ = some (.int .i64 a1_0) ∧ w'.cell? ⟨gb1090, 1, none⟩ = some (.int .i64 a1_1)) ∧ (w'.heap[gb1089]? = some (.cells #[.int .i64 a0_0, .int .i64 a0_1] 147 (0, 0))) ∧ (w'.heap[gb1090]? = some (.cells #[.int .i64 a1_0, .int .i64 a1_1] 147 (0, 0))) ∧ (w'.heap[gb1091]? = some (.cells #[.int .i64 0, .int .i64 0] 147 (0, 0))) ∧ (w'.heap[s_]? = some (.cells #[.int .i64 0, .int .i64 0] 147 (0, 0))) ∧ (w.heap.size ≤ s_) ∧ (w.heap.size ≤ s_) ∧ (gb1089 ≠ s_) ∧ (s_ ≠ gb1089) ∧ (gb1090 ≠ s_) ∧ (s_ ≠ gb1090) ∧ (gb1091 ≠ s_) ∧ (s_ ≠ gb1091) ∧ (Below w.heap.size w w')) ?_ ?_
    rotate_left
    · intro hJ4_9_10
      refine join_ (σ := Nat) 3 #[true, true, true, true, true, true, true, true, true, true, false, true, false, false] (fun s_ => [(11, .agg #[.int .i64 t1092, .int .i64 t1093]), (16, .agg #[.int .i64 t1094, .int .i64 t1095]), (6, .pointer (some ⟨s_, 0, none⟩))]) (fun s_ w' => (w'.cell? ⟨gb1089, 0, none⟩ = some (.int .i64 a0_0) ∧ w'.cell? ⟨gb1089, 1, none⟩ = some (.int .i64 a0_1) ∧ w'.cell? ⟨gb1090, 0, none⟩ = some (.int .i64 a1_0) ∧ w'.cell? ⟨gb1090, 1, none⟩ = some (.int .i64 a1_1)) ∧ (w'.heap[gb1089]? = some (.cells #[.int .i64 a0_0, .int .i64 a0_1] 147 (0, 0))) ∧ (w'.heap[gb1090]? = some (.cells #[.int .i64 a1_0, .int .i64 a1_1] 147 (0, 0))) ∧ (w'.heap[gb1091]? = some (.cells #[.int .i64 0, .int .i64 0] 147 (0, 0))) ∧ (w'.heap[s_]? = some (.cells #[.int .i64 0, .int .i64 0] 147 (0, 0))) ∧ (w.heap.size ≤ s_) ∧ (w.heap.size ≤ s_) ∧ (gb1089 ≠ s_) ∧ (s_ ≠ gb1089) ∧ (gb1090 ≠ s_) ∧ (s_ ≠ gb1090) ∧ (gb1091 ≠ s_) ∧ (s_ ≠ gb1091) ∧ (Below w.heap.size w w')) ?_ ?_
      rotate_left
      · intro hJ4_9_11
        refine join_ (σ := Nat × Nat) 3 #[true, true, true, true, true, true, true, true, true, false, true, true, false, false] (fun s_ => [(11, .agg #[.int .i64 t1092, .int .i64 t1093]), (5, .pointer (some ⟨s_.1, 0, none⟩)), (6, .pointer (some ⟨s_.2, 0, none⟩))]) (fun s_ w' => (w'.cell? ⟨gb1089, 0, none⟩ = some (.int .i64 a0_0) ∧ w'.cell? ⟨gb1089, 1, none⟩ = some (.int .i64 a0_1) ∧ w'.cell? ⟨gb1090, 0, none⟩ = some (.int .i64 a1_0) ∧ w'.cell? ⟨gb1090, 1, none⟩ = some (.int .i64 a1_1)) ∧ (w'.heap[gb1089]? = some (.cells #[.int .i64 a0_0, .int .i64 a0_1] 147 (0, 0))) ∧ (w'.heap[gb1090]? = some (.cells #[.int .i64 a1_0, .int .i64 a1_1] 147 (0, 0))) ∧ (w'.heap[gb1091]? = some (.cells #[.int .i64 0, .int .i64 0] 147 (0, 0))) ∧ (w'.heap[s_.1]? = some (.cells #[.int .i64 0, .int .i64 0] 147 (0, 0))) ∧ (w'.heap[s_.2]? = some (.cells #[.int .i64 0, .int .i64 0] 147 (0, 0))) ∧ (w.heap.size ≤ s_.1) ∧ (w.heap.size ≤ s_.1) ∧ (gb1089 ≠ s_.1) ∧ (s_.1 ≠ gb1089) ∧ (gb1090 ≠ s_.1) ∧ (s_.1 ≠ gb1090) ∧ (gb1091 ≠ s_.1) ∧ (s_.1 ≠ gb1091) ∧ (s_.2 ≠ s_.1) ∧ (s_.1 ≠ s_.2) ∧ (w.heap.size ≤ s_.2) ∧ (w.heap.size ≤ s_.2) ∧ (gb1089 ≠ s_.2) ∧ (s_.2 ≠ gb1089) ∧ (gb1090 ≠ s_.2) ∧ (s_.2 ≠ gb1090) ∧ (gb1091 ≠ s_.2) ∧ (s_.2 ≠ gb1091) ∧ (Below w.heap.size w w')) ?_ ?_
        rotate_left
        · intro hJ4_10_11
          refine join_ (σ := Unit) 4 #[true, true, true, true, true, true, true, true, true, true, false, false, false, false] (fun s_ => [(11, .agg #[.int .i64 t1092, .int .i64 t1093]), (16, .agg #[.int .i64 t1094, .int .i64 t1095])]) (fun s_ w' => (w'.cell? ⟨gb1089, 0, none⟩ = some (.int .i64 a0_0) ∧ w'.cell? ⟨gb1089, 1, none⟩ = some (.int .i64 a0_1) ∧ w'.cell? ⟨gb1090, 0, none⟩ = some (.int .i64 a1_0) ∧ w'.cell? ⟨gb1090, 1, none⟩ = some (.int .i64 a1_1)) ∧ (w'.heap[gb1089]? = some (.cells #[.int .i64 a0_0, .int .i64 a0_1] 147 (0, 0))) ∧ (w'.heap[gb1090]? = some (.cells #[.int .i64 a1_0, .int .i64 a1_1] 147 (0, 0))) ∧ (w'.heap[gb1091]? = some (.cells #[.int .i64 0, .int .i64 0] 147 (0, 0))) ∧ (Below w.heap.size w w')) ?_ ?_
          rotate_left
          · intro hJ4_9
            refine join_ (σ := Nat) 4 #[true, true, true, true, true, true, true, true, true, false, true, false, false, false] (fun s_ => [(11, .agg #[.int .i64 t1092, .int .i64 t1093]), (5, .pointer (some ⟨s_, 0, none⟩))]) (fun s_ w' => (w'.cell? ⟨gb1089, 0, none⟩ = some (.int .i64 a0_0) ∧ w'.cell? ⟨gb1089, 1, none⟩ = some (.int .i64 a0_1) ∧ w'.cell? ⟨gb1090, 0, none⟩ = some (.int .i64 a1_0) ∧ w'.cell? ⟨gb1090, 1, none⟩ = some (.int .i64 a1_1)) ∧ (w'.heap[gb1089]? = some (.cells #[.int .i64 a0_0, .int .i64 a0_1] 147 (0, 0))) ∧ (w'.heap[gb1090]? = some (.cells #[.int .i64 a1_0, .int .i64 a1_1] 147 (0, 0))) ∧ (w'.heap[gb1091]? = some (.cells #[.int .i64 0, .int .i64 0] 147 (0, 0))) ∧ (w'.heap[s_]? = some (.cells #[.int .i64 0, .int .i64 0] 147 (0, 0))) ∧ (w.heap.size ≤ s_) ∧ (w.heap.size ≤ s_) ∧ (gb1089 ≠ s_) ∧ (s_ ≠ gb1089) ∧ (gb1090 ≠ s_) ∧ (s_ ≠ gb1090) ∧ (gb1091 ≠ s_) ∧ (s_ ≠ gb1091) ∧ (Below w.heap.size w w')) ?_ ?_
            rotate_left
            · intro hJ4_10
              refine join_ (σ := Nat) 4 #[true, true, true, true, true, true, true, true, true, false, false, true, false, false] (fun s_ => [(11, .agg #[.int .i64 t1092, .int .i64 t1093]), (6, .pointer (some ⟨s_, 0, none⟩))]) (fun s_ w' => (w'.cell? ⟨gb1089, 0, none⟩ = some (.int .i64 a0_0) ∧ w'.cell? ⟨gb1089, 1, none⟩ = some (.int .i64 a0_1) ∧ w'.cell? ⟨gb1090, 0, none⟩ = some (.int .i64 a1_0) ∧ w'.cell? ⟨gb1090, 1, none⟩ = some (.int .i64 a1_1)) ∧ (w'.heap[gb1089]? = some (.cells #[.int .i64 a0_0, .int .i64 a0_1] 147 (0, 0))) ∧ (w'.heap[gb1090]? = some (.cells #[.int .i64 a1_0, .int .i64 a1_1] 147 (0, 0))) ∧ (w'.heap[gb1091]? = some (.cells #[.int .i64 0, .int .i64 0] 147 (0, 0))) ∧ (w'.heap[s_]? = some (.cells #[.int .i64 0, .int .i64 0] 147 (0, 0))) ∧ (w.heap.size ≤ s_) ∧ (w.heap.size ≤ s_) ∧ (gb1089 ≠ s_) ∧ (s_ ≠ gb1089) ∧ (gb1090 ≠ s_) ∧ (s_ ≠ gb1090) ∧ (gb1091 ≠ s_) ∧ (s_ ≠ gb1091) ∧ (Below w.heap.size w w')) ?_ ?_
              rotate_left
              · intro hJ4_11
                refine join_ (σ := Nat × Nat) 4 #[true, true, true, true, false, true, true, true, true, false, true, true, false, false] (fun s_ => [(5, .pointer (some ⟨s_.1, 0, none⟩)), (6, .pointer (some ⟨s_.2, 0, none⟩))]) (fun s_ w' => (w'.cell? ⟨gb1089, 0, none⟩ = some (.int .i64 a0_0) ∧ w'.cell? ⟨gb1089, 1, none⟩ = some (.int .i64 a0_1) ∧ w'.cell? ⟨gb1090, 0, none⟩ = some (.int .i64 a1_0) ∧ w'.cell? ⟨gb1090, 1, none⟩ = some (.int .i64 a1_1)) ∧ (w'.heap[gb1089]? = some (.cells #[.int .i64 a0_0, .int .i64 a0_1] 147 (0, 0))) ∧ (w'.heap[gb1090]? = some (.cells #[.int .i64 a1_0, .int .i64 a1_1] 147 (0, 0))) ∧ (w'.heap[gb1091]? = some (.cells #[.int .i64 0, .int .i64 0] 147 (0, 0))) ∧ (w'.heap[s_.1]? = some (.cells #[.int .i64 0, .int .i64 0] 147 (0, 0))) ∧ (w'.heap[s_.2]? = some (.cells #[.int .i64 0, .int .i64 0] 147 (0, 0))) ∧ (w.heap.size ≤ s_.1) ∧ (w.heap.size ≤ s_.1) ∧ (gb1089 ≠ s_.1) ∧ (s_.1 ≠ gb1089) ∧ (gb1090 ≠ s_.1) ∧ (s_.1 ≠ gb1090) ∧ (gb1091 ≠ s_.1) ∧ (s_.1 ≠ gb1091) ∧ (s_.2 ≠ s_.1) ∧ (s_.1 ≠ s_.2) ∧ (w.heap.size ≤ s_.2) ∧ (w.heap.size ≤ s_.2) ∧ (gb1089 ≠ s_.2) ∧ (s_.2 ≠ gb1089) ∧ (gb1090 ≠ s_.2) ∧ (s_.2 ≠ gb1090) ∧ (gb1091 ≠ s_.2) ∧ (s_.2 ≠ gb1091) ∧ (Below w.heap.size w w')) ?_ ?_
                rotate_left
                · intro hJ10_11
                  refine join_ (σ := Unit) 5 #[true, true, true, true, true, true, true, true, true, false, false, false, false, false] (fun s_ => [(11, .agg #[.int .i64 t1092, .int .i64 t1093])]) (fun s_ w' => (w'.cell? ⟨gb1089, 0, none⟩ = some (.int .i64 a0_0) ∧ w'.cell? ⟨gb1089, 1, none⟩ = some (.int .i64 a0_1) ∧ w'.cell? ⟨gb1090, 0, none⟩ = some (.int .i64 a1_0) ∧ w'.cell? ⟨gb1090, 1, none⟩ = some (.int .i64 a1_1)) ∧ (w'.heap[gb1089]? = some (.cells #[.int .i64 a0_0, .int .i64 a0_1] 147 (0, 0))) ∧ (w'.heap[gb1090]? = some (.cells #[.int .i64 a1_0, .int .i64 a1_1] 147 (0, 0))) ∧ (w'.heap[gb1091]? = some (.cells #[.int .i64 0, .int .i64 0] 147 (0, 0))) ∧ (Below w.heap.size w w')) ?_ ?_
                  rotate_left
                  · intro hJ4
                    refine join_ (σ := Nat) 5 #[true, true, true, true, false, true, true, true, true, false, true, false, false, false] (fun s_ => [(5, .pointer (some ⟨s_, 0, none⟩))]) (fun s_ w' => (w'.cell? ⟨gb1089, 0, none⟩ = some (.int .i64 a0_0) ∧ w'.cell? ⟨gb1089, 1, none⟩ = some (.int .i64 a0_1) ∧ w'.cell? ⟨gb1090, 0, none⟩ = some (.int .i64 a1_0) ∧ w'.cell? ⟨gb1090, 1, none⟩ = some (.int .i64 a1_1)) ∧ (w'.heap[gb1089]? = some (.cells #[.int .i64 a0_0, .int .i64 a0_1] 147 (0, 0))) ∧ (w'.heap[gb1090]? = some (.cells #[.int .i64 a1_0, .int .i64 a1_1] 147 (0, 0))) ∧ (w'.heap[gb1091]? = some (.cells #[.int .i64 0, .int .i64 0] 147 (0, 0))) ∧ (w'.heap[s_]? = some (.cells #[.int .i64 0, .int .i64 0] 147 (0, 0))) ∧ (w.heap.size ≤ s_) ∧ (w.heap.size ≤ s_) ∧ (gb1089 ≠ s_) ∧ (s_ ≠ gb1089) ∧ (gb1090 ≠ s_) ∧ (s_ ≠ gb1090) ∧ (gb1091 ≠ s_) ∧ (s_ ≠ gb1091) ∧ (Below w.heap.size w w')) ?_ ?_
                    rotate_left
                    · intro hJ10
                      refine join_ (σ := Nat) 5 #[true, true, true, true, false, true, true, true, true, false, false, true, false, false] (fun s_ => [(6, .pointer (some ⟨s_, 0, none⟩))]) (fun s_ w' => (w'.cell? ⟨gb1089, 0, none⟩ = some (.int .i64 a0_0) ∧ w'.cell? ⟨gb1089, 1, none⟩ = some (.int .i64 a0_1) ∧ w'.cell? ⟨gb1090, 0, none⟩ = some (.int .i64 a1_0) ∧ w'.cell? ⟨gb1090, 1, none⟩ = some (.int .i64 a1_1)) ∧ (w'.heap[gb1089]? = some (.cells #[.int .i64 a0_0, .int .i64 a0_1] 147 (0, 0))) ∧ (w'.heap[gb1090]? = some (.cells #[.int .i64 a1_0, .int .i64 a1_1] 147 (0, 0))) ∧ (w'.heap[gb1091]? = some (.cells #[.int .i64 0, .int .i64 0] 147 (0, 0))) ∧ (w'.heap[s_]? = some (.cells #[.int .i64 0, .int .i64 0] 147 (0, 0))) ∧ (w.heap.size ≤ s_) ∧ (w.heap.size ≤ s_) ∧ (gb1089 ≠ s_) ∧ (s_ ≠ gb1089) ∧ (gb1090 ≠ s_) ∧ (s_ ≠ gb1090) ∧ (gb1091 ≠ s_) ∧ (s_ ≠ gb1091) ∧ (Below w.heap.size w w')) ?_ ?_
                      rotate_left
                      · intro hJ11
                        refine three_ (i := 4) (j := 10) (k := 11) (Ni := some 11) (Nj := some 5) (Nk := some 6) #[true, true, true, true, true, true, true, true, true, false, false, false, false, false] #[true, true, true, true, false, true, true, true, true, false, true, false, false, false] #[true, true, true, true, false, true, true, true, true, false, false, true, false, false] rfl rfl rfl rfl rfl rfl (three_of HT_.out (by kernel_rfl)) (by decide) (by decide) (by decide) (fun K hK => ?_) (fun K hK => ?_) (fun K hK => ?_)
                        · skip
                          refine goes_ Try.func220 (by kernel_rfl) rfl #[.int .i64 a0_0, .int .i64 a1_1] (by rfl) rfl rfl (by (try simp only [List.map_toArray, List.map_cons, List.map_nil]); first | done | rfl | (simp only [List.length_drop, List.length_take]; rfl)) ?_
                          with_reducible refine (impl_fractionOf.calls k a0_0 a1_1 t1092 t1093 _ A3.out).mono ?_
                          rintro e w9 ⟨rfl, hb⟩
                          refine ⟨_, rfl, ?_⟩
                          have n0_ := Aside0.mk (blk_below (g := gb1089) (o := .cells #[.int .i64 a0_0, .int .i64 a0_1] 147 (0, 0)) (by (with_reducible repeat (first | refine blk_drewN ?_ _ | refine blk_drew ?_ | refine blk_alloc ?_ _)); exact BK1089.out) hb)
                          have n1_ := Aside0.mk (blk_below (g := gb1090) (o := .cells #[.int .i64 a1_0, .int .i64 a1_1] 147 (0, 0)) (by (with_reducible repeat (first | refine blk_drewN ?_ _ | refine blk_drew ?_ | refine blk_alloc ?_ _)); exact BK1090.out) hb)
                          have n2_ := Aside0.mk (blk_below (g := gb1091) (o := .cells #[.int .i64 0, .int .i64 0] 147 (0, 0)) (by (with_reducible repeat (first | refine blk_drewN ?_ _ | refine blk_drew ?_ | refine blk_alloc ?_ _)); exact BK1091.out) hb)
                          have n3_ := Aside0.mk (below_step (by repeat (first | (with_reducible first | exact HB.out | apply below_alloc | apply pw_below_drewN | apply below_drew1 | refine below_set ?_ GE1089.out | refine below_set ?_ GE1090.out | refine below_set ?_ GE1091.out) | exact HB.out)) hb)
                          clear BK1089
                          clear BK1090
                          clear BK1091
                          clear HB
                          have BK1089 := n0_
                          have BK1090 := n1_
                          have BK1091 := n2_
                          have HB := n3_
                          clear n0_ n1_ n2_ n3_
                          (try clear hb)
                          (try clear hb2)
                          (try clear hk)
                          (try clear hi)
                          refine hK.out _ _ ⟨(blk_cell BK1089.out 0).trans rfl, (blk_cell BK1089.out 1).trans rfl, (blk_cell BK1090.out 0).trans rfl, (blk_cell BK1090.out 1).trans rfl⟩ (fun hHeld => ?_)
                          clear hK K
                          refine norm_ (a' := ?_) ?_ ?_
                          rotate_left
                          · show Act.put _ (some 11) _ = _
                            simp only [Act.put, List.setIfInBounds_toArray, List.set_cons_zero, List.set_cons_succ, i64_w, i32_w]
                            rfl
                          exact norm_ (by first | (simp only [putAll, Act.put, List.setIfInBounds_toArray, List.set_cons_zero, List.set_cons_succ]; done) | (simp only [putAll, Act.put, List.setIfInBounds_toArray, List.set_cons_zero, List.set_cons_succ]; rfl)) (hJ4 () _ ⟨hHeld, (by (with_reducible repeat (first | refine blk_drewN ?_ _ | refine blk_drew ?_ | refine blk_alloc ?_ _)); exact BK1089.out), (by (with_reducible repeat (first | refine blk_drewN ?_ _ | refine blk_drew ?_ | refine blk_alloc ?_ _)); exact BK1090.out), (by (with_reducible repeat (first | refine blk_drewN ?_ _ | refine blk_drew ?_ | refine blk_alloc ?_ _)); exact BK1091.out), (by repeat (first | (with_reducible first | exact HB.out | apply below_alloc | apply pw_below_drewN | apply below_drew1 | refine below_set ?_ GE1089.out | refine below_set ?_ GE1090.out | refine below_set ?_ GE1091.out) | exact HB.out))⟩)
                        · skip
                          refine box_step ?hg (N := 5) ?hd (cs := #[.int .i64 0, .int .i64 0]) (t := 147) ?hr ?_; (case hd => rfl); (case hg => rfl); (case hr => first | (go_simp; done) | (go_simp; rfl))
                          intro gb1096 hg w9 hbox hb
                          have n0_ := Aside0.mk (blk_below (g := gb1089) (o := .cells #[.int .i64 a0_0, .int .i64 a0_1] 147 (0, 0)) (by (with_reducible repeat (first | refine blk_drewN ?_ _ | refine blk_drew ?_ | refine blk_alloc ?_ _)); exact BK1089.out) hb)
                          have n1_ := Aside0.mk (blk_below (g := gb1090) (o := .cells #[.int .i64 a1_0, .int .i64 a1_1] 147 (0, 0)) (by (with_reducible repeat (first | refine blk_drewN ?_ _ | refine blk_drew ?_ | refine blk_alloc ?_ _)); exact BK1090.out) hb)
                          have n2_ := Aside0.mk (blk_below (g := gb1091) (o := .cells #[.int .i64 0, .int .i64 0] 147 (0, 0)) (by (with_reducible repeat (first | refine blk_drewN ?_ _ | refine blk_drew ?_ | refine blk_alloc ?_ _)); exact BK1091.out) hb)
                          have n3_ := Aside0.mk (below_step (by repeat (first | (with_reducible first | exact HB.out | apply below_alloc | apply pw_below_drewN | apply below_drew1 | refine below_set ?_ GE1089.out | refine below_set ?_ GE1090.out | refine below_set ?_ GE1091.out) | exact HB.out)) hb)
                          have n4_ := Aside0.mk (hbox)
                          have n5_ := Aside0.mk ((by rw [hg]; exact (below_size (by repeat (first | (with_reducible first | exact HB.out | apply below_alloc | apply pw_below_drewN | apply below_drew1 | refine below_set ?_ GE1089.out | refine below_set ?_ GE1090.out | refine below_set ?_ GE1091.out) | exact HB.out))) : w.heap.size ≤ gb1096))
                          have n6_ := Aside0.mk ((by rw [hg]; exact (below_size (by repeat (first | (with_reducible first | exact HB.out | apply below_alloc | apply pw_below_drewN | apply below_drew1 | refine below_set ?_ GE1089.out | refine below_set ?_ GE1090.out | refine below_set ?_ GE1091.out) | exact HB.out))) : w.heap.size ≤ gb1096))
                          have n7_ := Aside0.mk ((by rw [hg]; exact Nat.ne_of_lt (blk_lt (g := gb1089) (o := .cells #[.int .i64 a0_0, .int .i64 a0_1] 147 (0, 0)) (by (with_reducible repeat (first | refine blk_drewN ?_ _ | refine blk_drew ?_ | refine blk_alloc ?_ _)); exact BK1089.out)) : gb1089 ≠ gb1096))
                          have n8_ := Aside0.mk ((by rw [hg]; exact Nat.ne_of_gt (blk_lt (g := gb1089) (o := .cells #[.int .i64 a0_0, .int .i64 a0_1] 147 (0, 0)) (by (with_reducible repeat (first | refine blk_drewN ?_ _ | refine blk_drew ?_ | refine blk_alloc ?_ _)); exact BK1089.out)) : gb1096 ≠ gb1089))
                          have n9_ := Aside0.mk ((by rw [hg]; exact Nat.ne_of_lt (blk_lt (g := gb1090) (o := .cells #[.int .i64 a1_0, .int .i64 a1_1] 147 (0, 0)) (by (with_reducible repeat (first | refine blk_drewN ?_ _ | refine blk_drew ?_ | refine blk_alloc ?_ _)); exact BK1090.out)) : gb1090 ≠ gb1096))
                          have n10_ := Aside0.mk ((by rw [hg]; exact Nat.ne_of_gt (blk_lt (g := gb1090) (o := .cells #[.int .i64 a1_0, .int .i64 a1_1] 147 (0, 0)) (by (with_reducible repeat (first | refine blk_drewN ?_ _ | refine blk_drew ?_ | refine blk_alloc ?_ _)); exact BK1090.out)) : gb1096 ≠ gb1090))
                          have n11_ := Aside0.mk ((by rw [hg]; exact Nat.ne_of_lt (blk_lt (g := gb1091) (o := .cells #[.int .i64 0, .int .i64 0] 147 (0, 0)) (by (with_reducible repeat (first | refine blk_drewN ?_ _ | refine blk_drew ?_ | refine blk_alloc ?_ _)); exact BK1091.out)) : gb1091 ≠ gb1096))
                          have n12_ := Aside0.mk ((by rw [hg]; exact Nat.ne_of_gt (blk_lt (g := gb1091) (o := .cells #[.int .i64 0, .int .i64 0] 147 (0, 0)) (by (with_reducible repeat (first | refine blk_drewN ?_ _ | refine blk_drew ?_ | refine blk_alloc ?_ _)); exact BK1091.out)) : gb1096 ≠ gb1091))
                          clear BK1089
                          clear BK1090
                          clear BK1091
                          clear HB
                          have BK1089 := n0_
                          have BK1090 := n1_
                          have BK1091 := n2_
                          have HB := n3_
                          have BK1096 := n4_
                          have GW1096 := n5_
                          have GE1096 := n6_
                          have NB1089_1096 := n7_
                          have NB1096_1089 := n8_
                          have NB1090_1096 := n9_
                          have NB1096_1090 := n10_
                          have NB1091_1096 := n11_
                          have NB1096_1091 := n12_
                          clear n0_ n1_ n2_ n3_ n4_ n5_ n6_ n7_ n8_ n9_ n10_ n11_ n12_
                          clear hb hbox hg
                          refine hK.out _ _ ⟨(blk_cell BK1089.out 0).trans rfl, (blk_cell BK1089.out 1).trans rfl, (blk_cell BK1090.out 0).trans rfl, (blk_cell BK1090.out 1).trans rfl⟩ (fun hHeld => ?_)
                          clear hK K
                          refine norm_ (a' := ?_) ?_ ?_
                          rotate_left
                          · show Act.put _ (some 5) _ = _
                            simp only [Act.put, List.setIfInBounds_toArray, List.set_cons_zero, List.set_cons_succ, i64_w, i32_w]
                            rfl
                          exact norm_ (by first | (simp only [putAll, Act.put, List.setIfInBounds_toArray, List.set_cons_zero, List.set_cons_succ]; done) | (simp only [putAll, Act.put, List.setIfInBounds_toArray, List.set_cons_zero, List.set_cons_succ]; rfl)) (hJ10 (gb1096) _ ⟨hHeld, (by (with_reducible repeat (first | refine blk_drewN ?_ _ | refine blk_drew ?_ | refine blk_alloc ?_ _)); exact BK1089.out), (by (with_reducible repeat (first | refine blk_drewN ?_ _ | refine blk_drew ?_ | refine blk_alloc ?_ _)); exact BK1090.out), (by (with_reducible repeat (first | refine blk_drewN ?_ _ | refine blk_drew ?_ | refine blk_alloc ?_ _)); exact BK1091.out), (by (with_reducible repeat (first | refine blk_drewN ?_ _ | refine blk_drew ?_ | refine blk_alloc ?_ _)); exact BK1096.out), GW1096.out, GE1096.out, NB1089_1096.out, NB1096_1089.out, NB1090_1096.out, NB1096_1090.out, NB1091_1096.out, NB1096_1091.out, (by repeat (first | (with_reducible first | exact HB.out | apply below_alloc | apply pw_below_drewN | apply below_drew1 | refine below_set ?_ GE1089.out | refine below_set ?_ GE1090.out | refine below_set ?_ GE1091.out | refine below_set ?_ GE1096.out) | exact HB.out))⟩)
                        · skip
                          refine box_step ?hg (N := 6) ?hd (cs := #[.int .i64 0, .int .i64 0]) (t := 147) ?hr ?_; (case hd => rfl); (case hg => rfl); (case hr => first | (go_simp; done) | (go_simp; rfl))
                          intro gb1097 hg w9 hbox hb
                          have n0_ := Aside0.mk (blk_below (g := gb1089) (o := .cells #[.int .i64 a0_0, .int .i64 a0_1] 147 (0, 0)) (by (with_reducible repeat (first | refine blk_drewN ?_ _ | refine blk_drew ?_ | refine blk_alloc ?_ _)); exact BK1089.out) hb)
                          have n1_ := Aside0.mk (blk_below (g := gb1090) (o := .cells #[.int .i64 a1_0, .int .i64 a1_1] 147 (0, 0)) (by (with_reducible repeat (first | refine blk_drewN ?_ _ | refine blk_drew ?_ | refine blk_alloc ?_ _)); exact BK1090.out) hb)
                          have n2_ := Aside0.mk (blk_below (g := gb1091) (o := .cells #[.int .i64 0, .int .i64 0] 147 (0, 0)) (by (with_reducible repeat (first | refine blk_drewN ?_ _ | refine blk_drew ?_ | refine blk_alloc ?_ _)); exact BK1091.out) hb)
                          have n3_ := Aside0.mk (below_step (by repeat (first | (with_reducible first | exact HB.out | apply below_alloc | apply pw_below_drewN | apply below_drew1 | refine below_set ?_ GE1089.out | refine below_set ?_ GE1090.out | refine below_set ?_ GE1091.out) | exact HB.out)) hb)
                          have n4_ := Aside0.mk (hbox)
                          have n5_ := Aside0.mk ((by rw [hg]; exact (below_size (by repeat (first | (with_reducible first | exact HB.out | apply below_alloc | apply pw_below_drewN | apply below_drew1 | refine below_set ?_ GE1089.out | refine below_set ?_ GE1090.out | refine below_set ?_ GE1091.out) | exact HB.out))) : w.heap.size ≤ gb1097))
                          have n6_ := Aside0.mk ((by rw [hg]; exact (below_size (by repeat (first | (with_reducible first | exact HB.out | apply below_alloc | apply pw_below_drewN | apply below_drew1 | refine below_set ?_ GE1089.out | refine below_set ?_ GE1090.out | refine below_set ?_ GE1091.out) | exact HB.out))) : w.heap.size ≤ gb1097))
                          have n7_ := Aside0.mk ((by rw [hg]; exact Nat.ne_of_lt (blk_lt (g := gb1089) (o := .cells #[.int .i64 a0_0, .int .i64 a0_1] 147 (0, 0)) (by (with_reducible repeat (first | refine blk_drewN ?_ _ | refine blk_drew ?_ | refine blk_alloc ?_ _)); exact BK1089.out)) : gb1089 ≠ gb1097))
                          have n8_ := Aside0.mk ((by rw [hg]; exact Nat.ne_of_gt (blk_lt (g := gb1089) (o := .cells #[.int .i64 a0_0, .int .i64 a0_1] 147 (0, 0)) (by (with_reducible repeat (first | refine blk_drewN ?_ _ | refine blk_drew ?_ | refine blk_alloc ?_ _)); exact BK1089.out)) : gb1097 ≠ gb1089))
                          have n9_ := Aside0.mk ((by rw [hg]; exact Nat.ne_of_lt (blk_lt (g := gb1090) (o := .cells #[.int .i64 a1_0, .int .i64 a1_1] 147 (0, 0)) (by (with_reducible repeat (first | refine blk_drewN ?_ _ | refine blk_drew ?_ | refine blk_alloc ?_ _)); exact BK1090.out)) : gb1090 ≠ gb1097))
                          have n10_ := Aside0.mk ((by rw [hg]; exact Nat.ne_of_gt (blk_lt (g := gb1090) (o := .cells #[.int .i64 a1_0, .int .i64 a1_1] 147 (0, 0)) (by (with_reducible repeat (first | refine blk_drewN ?_ _ | refine blk_drew ?_ | refine blk_alloc ?_ _)); exact BK1090.out)) : gb1097 ≠ gb1090))
                          have n11_ := Aside0.mk ((by rw [hg]; exact Nat.ne_of_lt (blk_lt (g := gb1091) (o := .cells #[.int .i64 0, .int .i64 0] 147 (0, 0)) (by (with_reducible repeat (first | refine blk_drewN ?_ _ | refine blk_drew ?_ | refine blk_alloc ?_ _)); exact BK1091.out)) : gb1091 ≠ gb1097))
                          have n12_ := Aside0.mk ((by rw [hg]; exact Nat.ne_of_gt (blk_lt (g := gb1091) (o := .cells #[.int .i64 0, .int .i64 0] 147 (0, 0)) (by (with_reducible repeat (first | refine blk_drewN ?_ _ | refine blk_drew ?_ | refine blk_alloc ?_ _)); exact BK1091.out)) : gb1097 ≠ gb1091))
                          clear BK1089
                          clear BK1090
                          clear BK1091
                          clear HB
                          have BK1089 := n0_
                          have BK1090 := n1_
                          have BK1091 := n2_
                          have HB := n3_
                          have BK1097 := n4_
                          have GW1097 := n5_
                          have GE1097 := n6_
                          have NB1089_1097 := n7_
                          have NB1097_1089 := n8_
                          have NB1090_1097 := n9_
                          have NB1097_1090 := n10_
                          have NB1091_1097 := n11_
                          have NB1097_1091 := n12_
                          clear n0_ n1_ n2_ n3_ n4_ n5_ n6_ n7_ n8_ n9_ n10_ n11_ n12_
                          clear hb hbox hg
                          refine hK.out _ _ ⟨(blk_cell BK1089.out 0).trans rfl, (blk_cell BK1089.out 1).trans rfl, (blk_cell BK1090.out 0).trans rfl, (blk_cell BK1090.out 1).trans rfl⟩ (fun hHeld => ?_)
                          clear hK K
                          refine norm_ (a' := ?_) ?_ ?_
                          rotate_left
                          · show Act.put _ (some 6) _ = _
                            simp only [Act.put, List.setIfInBounds_toArray, List.set_cons_zero, List.set_cons_succ, i64_w, i32_w]
                            rfl
                          exact norm_ (by first | (simp only [putAll, Act.put, List.setIfInBounds_toArray, List.set_cons_zero, List.set_cons_succ]; done) | (simp only [putAll, Act.put, List.setIfInBounds_toArray, List.set_cons_zero, List.set_cons_succ]; rfl)) (hJ11 (gb1097) _ ⟨hHeld, (by (with_reducible repeat (first | refine blk_drewN ?_ _ | refine blk_drew ?_ | refine blk_alloc ?_ _)); exact BK1089.out), (by (with_reducible repeat (first | refine blk_drewN ?_ _ | refine blk_drew ?_ | refine blk_alloc ?_ _)); exact BK1090.out), (by (with_reducible repeat (first | refine blk_drewN ?_ _ | refine blk_drew ?_ | refine blk_alloc ?_ _)); exact BK1091.out), (by (with_reducible repeat (first | refine blk_drewN ?_ _ | refine blk_drew ?_ | refine blk_alloc ?_ _)); exact BK1097.out), GW1097.out, GE1097.out, NB1089_1097.out, NB1097_1089.out, NB1090_1097.out, NB1097_1090.out, NB1091_1097.out, NB1097_1091.out, (by repeat (first | (with_reducible first | exact HB.out | apply below_alloc | apply pw_below_drewN | apply below_drew1 | refine below_set ?_ GE1089.out | refine below_set ?_ GE1090.out | refine below_set ?_ GE1091.out | refine below_set ?_ GE1097.out) | exact HB.out))⟩)
                      · skip
                        rintro gb1097 w10 ⟨hS_, h0_, h1_, h2_, h3_, h4_, h5_, h6_, h7_, h8_, h9_, h10_, h11_, h12_⟩
                        have n0_ : Aside0 (w10.heap[gb1089]? = some (.cells #[.int .i64 a0_0, .int .i64 a0_1] 147 (0, 0))) := ⟨h0_⟩
                        have n1_ : Aside0 (w10.heap[gb1090]? = some (.cells #[.int .i64 a1_0, .int .i64 a1_1] 147 (0, 0))) := ⟨h1_⟩
                        have n2_ : Aside0 (w10.heap[gb1091]? = some (.cells #[.int .i64 0, .int .i64 0] 147 (0, 0))) := ⟨h2_⟩
                        have n3_ : Aside0 (w10.heap[gb1097]? = some (.cells #[.int .i64 0, .int .i64 0] 147 (0, 0))) := ⟨h3_⟩
                        have n4_ : Aside0 (w.heap.size ≤ gb1097) := ⟨h4_⟩
                        have n5_ : Aside0 (w.heap.size ≤ gb1097) := ⟨h5_⟩
                        have n6_ : Aside0 (gb1089 ≠ gb1097) := ⟨h6_⟩
                        have n7_ : Aside0 (gb1097 ≠ gb1089) := ⟨h7_⟩
                        have n8_ : Aside0 (gb1090 ≠ gb1097) := ⟨h8_⟩
                        have n9_ : Aside0 (gb1097 ≠ gb1090) := ⟨h9_⟩
                        have n10_ : Aside0 (gb1091 ≠ gb1097) := ⟨h10_⟩
                        have n11_ : Aside0 (gb1097 ≠ gb1091) := ⟨h11_⟩
                        have n12_ : Aside0 (Below w.heap.size w w10) := ⟨h12_⟩
                        clear BK1089
                        clear BK1090
                        clear BK1091
                        clear HB
                        clear h0_ h1_ h2_ h3_ h4_ h5_ h6_ h7_ h8_ h9_ h10_ h11_ h12_
                        have BK1089 := n0_
                        have BK1090 := n1_
                        have BK1091 := n2_
                        have BK1097 := n3_
                        have GW1097 := n4_
                        have GE1097 := n5_
                        have NB1089_1097 := n6_
                        have NB1097_1089 := n7_
                        have NB1090_1097 := n8_
                        have NB1097_1090 := n9_
                        have NB1091_1097 := n10_
                        have NB1097_1091 := n11_
                        have HB := n12_
                        clear n0_ n1_ n2_ n3_ n4_ n5_ n6_ n7_ n8_ n9_ n10_ n11_ n12_
                        have hHeld : w10.cell? ⟨gb1089, 0, none⟩ = some (.int .i64 a0_0) ∧ w10.cell? ⟨gb1089, 1, none⟩ = some (.int .i64 a0_1) ∧ w10.cell? ⟨gb1090, 0, none⟩ = some (.int .i64 a1_0) ∧ w10.cell? ⟨gb1090, 1, none⟩ = some (.int .i64 a1_1) := hS_
                        refine norm_ (a' := ?_) ?_ ?_
                        rotate_left
                        · simp only [putAll, Act.put, List.setIfInBounds_toArray, List.set_cons_zero, List.set_cons_succ]
                          rfl
                        refine two_ (i := 4) (j := 10) (Ni := some 11) (Nj := some 5) #[true, true, true, true, true, true, true, true, true, false, false, true, false, false] #[true, true, true, true, false, true, true, true, true, false, true, true, false, false] rfl rfl rfl rfl (two_of HT_.out (by kernel_rfl)) (by decide) (by decide) (fun K hK => ?_) (fun K hK => ?_)
                        · skip
                          refine goes_ Try.func220 (by kernel_rfl) rfl #[.int .i64 a0_0, .int .i64 a1_1] (by rfl) rfl rfl (by (try simp only [List.map_toArray, List.map_cons, List.map_nil]); first | done | rfl | (simp only [List.length_drop, List.length_take]; rfl)) ?_
                          with_reducible refine (impl_fractionOf.calls k a0_0 a1_1 t1092 t1093 _ A3.out).mono ?_
                          rintro e w11 ⟨rfl, hb⟩
                          refine ⟨_, rfl, ?_⟩
                          have n0_ := Aside0.mk (blk_below (g := gb1089) (o := .cells #[.int .i64 a0_0, .int .i64 a0_1] 147 (0, 0)) (by (with_reducible repeat (first | refine blk_drewN ?_ _ | refine blk_drew ?_ | refine blk_alloc ?_ _)); exact BK1089.out) hb)
                          have n1_ := Aside0.mk (blk_below (g := gb1090) (o := .cells #[.int .i64 a1_0, .int .i64 a1_1] 147 (0, 0)) (by (with_reducible repeat (first | refine blk_drewN ?_ _ | refine blk_drew ?_ | refine blk_alloc ?_ _)); exact BK1090.out) hb)
                          have n2_ := Aside0.mk (blk_below (g := gb1091) (o := .cells #[.int .i64 0, .int .i64 0] 147 (0, 0)) (by (with_reducible repeat (first | refine blk_drewN ?_ _ | refine blk_drew ?_ | refine blk_alloc ?_ _)); exact BK1091.out) hb)
                          have n3_ := Aside0.mk (blk_below (g := gb1097) (o := .cells #[.int .i64 0, .int .i64 0] 147 (0, 0)) (by (with_reducible repeat (first | refine blk_drewN ?_ _ | refine blk_drew ?_ | refine blk_alloc ?_ _)); exact BK1097.out) hb)
                          have n4_ := Aside0.mk (below_step (by repeat (first | (with_reducible first | exact HB.out | apply below_alloc | apply pw_below_drewN | apply below_drew1 | refine below_set ?_ GE1089.out | refine below_set ?_ GE1090.out | refine below_set ?_ GE1091.out | refine below_set ?_ GE1097.out) | exact HB.out)) hb)
                          clear BK1089
                          clear BK1090
                          clear BK1091
                          clear BK1097
                          clear HB
                          have BK1089 := n0_
                          have BK1090 := n1_
                          have BK1091 := n2_
                          have BK1097 := n3_
                          have HB := n4_
                          clear n0_ n1_ n2_ n3_ n4_
                          (try clear hb)
                          (try clear hb2)
                          (try clear hk)
                          (try clear hi)
                          refine hK.out _ _ ⟨(blk_cell BK1089.out 0).trans rfl, (blk_cell BK1089.out 1).trans rfl, (blk_cell BK1090.out 0).trans rfl, (blk_cell BK1090.out 1).trans rfl⟩ (fun hHeld => ?_)
                          clear hK K
                          refine norm_ (a' := ?_) ?_ ?_
                          rotate_left
                          · show Act.put _ (some 11) _ = _
                            simp only [Act.put, List.setIfInBounds_toArray, List.set_cons_zero, List.set_cons_succ, i64_w, i32_w]
                            rfl
                          exact norm_ (by first | (simp only [putAll, Act.put, List.setIfInBounds_toArray, List.set_cons_zero, List.set_cons_succ]; done) | (simp only [putAll, Act.put, List.setIfInBounds_toArray, List.set_cons_zero, List.set_cons_succ]; rfl)) (hJ4_11 (gb1097) _ ⟨hHeld, (by (with_reducible repeat (first | refine blk_drewN ?_ _ | refine blk_drew ?_ | refine blk_alloc ?_ _)); exact BK1089.out), (by (with_reducible repeat (first | refine blk_drewN ?_ _ | refine blk_drew ?_ | refine blk_alloc ?_ _)); exact BK1090.out), (by (with_reducible repeat (first | refine blk_drewN ?_ _ | refine blk_drew ?_ | refine blk_alloc ?_ _)); exact BK1091.out), (by (with_reducible repeat (first | refine blk_drewN ?_ _ | refine blk_drew ?_ | refine blk_alloc ?_ _)); exact BK1097.out), GW1097.out, GE1097.out, NB1089_1097.out, NB1097_1089.out, NB1090_1097.out, NB1097_1090.out, NB1091_1097.out, NB1097_1091.out, (by repeat (first | (with_reducible first | exact HB.out | apply below_alloc | apply pw_below_drewN | apply below_drew1 | refine below_set ?_ GE1089.out | refine below_set ?_ GE1090.out | refine below_set ?_ GE1091.out | refine below_set ?_ GE1097.out) | exact HB.out))⟩)
                        · skip
                          refine box_step ?hg (N := 5) ?hd (cs := #[.int .i64 0, .int .i64 0]) (t := 147) ?hr ?_; (case hd => rfl); (case hg => rfl); (case hr => first | (go_simp; done) | (go_simp; rfl))
                          intro gb1096 hg w11 hbox hb
                          have n0_ := Aside0.mk (blk_below (g := gb1089) (o := .cells #[.int .i64 a0_0, .int .i64 a0_1] 147 (0, 0)) (by (with_reducible repeat (first | refine blk_drewN ?_ _ | refine blk_drew ?_ | refine blk_alloc ?_ _)); exact BK1089.out) hb)
                          have n1_ := Aside0.mk (blk_below (g := gb1090) (o := .cells #[.int .i64 a1_0, .int .i64 a1_1] 147 (0, 0)) (by (with_reducible repeat (first | refine blk_drewN ?_ _ | refine blk_drew ?_ | refine blk_alloc ?_ _)); exact BK1090.out) hb)
                          have n2_ := Aside0.mk (blk_below (g := gb1091) (o := .cells #[.int .i64 0, .int .i64 0] 147 (0, 0)) (by (with_reducible repeat (first | refine blk_drewN ?_ _ | refine blk_drew ?_ | refine blk_alloc ?_ _)); exact BK1091.out) hb)
                          have n3_ := Aside0.mk (blk_below (g := gb1097) (o := .cells #[.int .i64 0, .int .i64 0] 147 (0, 0)) (by (with_reducible repeat (first | refine blk_drewN ?_ _ | refine blk_drew ?_ | refine blk_alloc ?_ _)); exact BK1097.out) hb)
                          have n4_ := Aside0.mk (below_step (by repeat (first | (with_reducible first | exact HB.out | apply below_alloc | apply pw_below_drewN | apply below_drew1 | refine below_set ?_ GE1089.out | refine below_set ?_ GE1090.out | refine below_set ?_ GE1091.out | refine below_set ?_ GE1097.out) | exact HB.out)) hb)
                          have n5_ := Aside0.mk (hbox)
                          have n6_ := Aside0.mk ((by rw [hg]; exact (below_size (by repeat (first | (with_reducible first | exact HB.out | apply below_alloc | apply pw_below_drewN | apply below_drew1 | refine below_set ?_ GE1089.out | refine below_set ?_ GE1090.out | refine below_set ?_ GE1091.out | refine below_set ?_ GE1097.out) | exact HB.out))) : w.heap.size ≤ gb1096))
                          have n7_ := Aside0.mk ((by rw [hg]; exact (below_size (by repeat (first | (with_reducible first | exact HB.out | apply below_alloc | apply pw_below_drewN | apply below_drew1 | refine below_set ?_ GE1089.out | refine below_set ?_ GE1090.out | refine below_set ?_ GE1091.out | refine below_set ?_ GE1097.out) | exact HB.out))) : w.heap.size ≤ gb1096))
                          have n8_ := Aside0.mk ((by rw [hg]; exact Nat.ne_of_lt (blk_lt (g := gb1089) (o := .cells #[.int .i64 a0_0, .int .i64 a0_1] 147 (0, 0)) (by (with_reducible repeat (first | refine blk_drewN ?_ _ | refine blk_drew ?_ | refine blk_alloc ?_ _)); exact BK1089.out)) : gb1089 ≠ gb1096))
                          have n9_ := Aside0.mk ((by rw [hg]; exact Nat.ne_of_gt (blk_lt (g := gb1089) (o := .cells #[.int .i64 a0_0, .int .i64 a0_1] 147 (0, 0)) (by (with_reducible repeat (first | refine blk_drewN ?_ _ | refine blk_drew ?_ | refine blk_alloc ?_ _)); exact BK1089.out)) : gb1096 ≠ gb1089))
                          have n10_ := Aside0.mk ((by rw [hg]; exact Nat.ne_of_lt (blk_lt (g := gb1090) (o := .cells #[.int .i64 a1_0, .int .i64 a1_1] 147 (0, 0)) (by (with_reducible repeat (first | refine blk_drewN ?_ _ | refine blk_drew ?_ | refine blk_alloc ?_ _)); exact BK1090.out)) : gb1090 ≠ gb1096))
                          have n11_ := Aside0.mk ((by rw [hg]; exact Nat.ne_of_gt (blk_lt (g := gb1090) (o := .cells #[.int .i64 a1_0, .int .i64 a1_1] 147 (0, 0)) (by (with_reducible repeat (first | refine blk_drewN ?_ _ | refine blk_drew ?_ | refine blk_alloc ?_ _)); exact BK1090.out)) : gb1096 ≠ gb1090))
                          have n12_ := Aside0.mk ((by rw [hg]; exact Nat.ne_of_lt (blk_lt (g := gb1091) (o := .cells #[.int .i64 0, .int .i64 0] 147 (0, 0)) (by (with_reducible repeat (first | refine blk_drewN ?_ _ | refine blk_drew ?_ | refine blk_alloc ?_ _)); exact BK1091.out)) : gb1091 ≠ gb1096))
                          have n13_ := Aside0.mk ((by rw [hg]; exact Nat.ne_of_gt (blk_lt (g := gb1091) (o := .cells #[.int .i64 0, .int .i64 0] 147 (0, 0)) (by (with_reducible repeat (first | refine blk_drewN ?_ _ | refine blk_drew ?_ | refine blk_alloc ?_ _)); exact BK1091.out)) : gb1096 ≠ gb1091))
                          have n14_ := Aside0.mk ((by rw [hg]; exact Nat.ne_of_lt (blk_lt (g := gb1097) (o := .cells #[.int .i64 0, .int .i64 0] 147 (0, 0)) (by (with_reducible repeat (first | refine blk_drewN ?_ _ | refine blk_drew ?_ | refine blk_alloc ?_ _)); exact BK1097.out)) : gb1097 ≠ gb1096))
                          have n15_ := Aside0.mk ((by rw [hg]; exact Nat.ne_of_gt (blk_lt (g := gb1097) (o := .cells #[.int .i64 0, .int .i64 0] 147 (0, 0)) (by (with_reducible repeat (first | refine blk_drewN ?_ _ | refine blk_drew ?_ | refine blk_alloc ?_ _)); exact BK1097.out)) : gb1096 ≠ gb1097))
                          clear BK1089
                          clear BK1090
                          clear BK1091
                          clear BK1097
                          clear HB
                          have BK1089 := n0_
                          have BK1090 := n1_
                          have BK1091 := n2_
                          have BK1097 := n3_
                          have HB := n4_
                          have BK1096 := n5_
                          have GW1096 := n6_
                          have GE1096 := n7_
                          have NB1089_1096 := n8_
                          have NB1096_1089 := n9_
                          have NB1090_1096 := n10_
                          have NB1096_1090 := n11_
                          have NB1091_1096 := n12_
                          have NB1096_1091 := n13_
                          have NB1097_1096 := n14_
                          have NB1096_1097 := n15_
                          clear n0_ n1_ n2_ n3_ n4_ n5_ n6_ n7_ n8_ n9_ n10_ n11_ n12_ n13_ n14_ n15_
                          clear hb hbox hg
                          refine hK.out _ _ ⟨(blk_cell BK1089.out 0).trans rfl, (blk_cell BK1089.out 1).trans rfl, (blk_cell BK1090.out 0).trans rfl, (blk_cell BK1090.out 1).trans rfl⟩ (fun hHeld => ?_)
                          clear hK K
                          refine norm_ (a' := ?_) ?_ ?_
                          rotate_left
                          · show Act.put _ (some 5) _ = _
                            simp only [Act.put, List.setIfInBounds_toArray, List.set_cons_zero, List.set_cons_succ, i64_w, i32_w]
                            rfl
                          exact norm_ (by first | (simp only [putAll, Act.put, List.setIfInBounds_toArray, List.set_cons_zero, List.set_cons_succ]; done) | (simp only [putAll, Act.put, List.setIfInBounds_toArray, List.set_cons_zero, List.set_cons_succ]; rfl)) (hJ10_11 (gb1096, gb1097) _ ⟨hHeld, (by (with_reducible repeat (first | refine blk_drewN ?_ _ | refine blk_drew ?_ | refine blk_alloc ?_ _)); exact BK1089.out), (by (with_reducible repeat (first | refine blk_drewN ?_ _ | refine blk_drew ?_ | refine blk_alloc ?_ _)); exact BK1090.out), (by (with_reducible repeat (first | refine blk_drewN ?_ _ | refine blk_drew ?_ | refine blk_alloc ?_ _)); exact BK1091.out), (by (with_reducible repeat (first | refine blk_drewN ?_ _ | refine blk_drew ?_ | refine blk_alloc ?_ _)); exact BK1096.out), (by (with_reducible repeat (first | refine blk_drewN ?_ _ | refine blk_drew ?_ | refine blk_alloc ?_ _)); exact BK1097.out), GW1096.out, GE1096.out, NB1089_1096.out, NB1096_1089.out, NB1090_1096.out, NB1096_1090.out, NB1091_1096.out, NB1096_1091.out, NB1097_1096.out, NB1096_1097.out, GW1097.out, GE1097.out, NB1089_1097.out, NB1097_1089.out, NB1090_1097.out, NB1097_1090.out, NB1091_1097.out, NB1097_1091.out, (by repeat (first | (with_reducible first | exact HB.out | apply below_alloc | apply pw_below_drewN | apply below_drew1 | refine below_set ?_ GE1089.out | refine below_set ?_ GE1090.out | refine below_set ?_ GE1091.out | refine below_set ?_ GE1097.out | refine below_set ?_ GE1096.out) | exact HB.out))⟩)
                    · skip
                      rintro gb1096 w10 ⟨hS_, h0_, h1_, h2_, h3_, h4_, h5_, h6_, h7_, h8_, h9_, h10_, h11_, h12_⟩
                      have n0_ : Aside0 (w10.heap[gb1089]? = some (.cells #[.int .i64 a0_0, .int .i64 a0_1] 147 (0, 0))) := ⟨h0_⟩
                      have n1_ : Aside0 (w10.heap[gb1090]? = some (.cells #[.int .i64 a1_0, .int .i64 a1_1] 147 (0, 0))) := ⟨h1_⟩
                      have n2_ : Aside0 (w10.heap[gb1091]? = some (.cells #[.int .i64 0, .int .i64 0] 147 (0, 0))) := ⟨h2_⟩
                      have n3_ : Aside0 (w10.heap[gb1096]? = some (.cells #[.int .i64 0, .int .i64 0] 147 (0, 0))) := ⟨h3_⟩
                      have n4_ : Aside0 (w.heap.size ≤ gb1096) := ⟨h4_⟩
                      have n5_ : Aside0 (w.heap.size ≤ gb1096) := ⟨h5_⟩
                      have n6_ : Aside0 (gb1089 ≠ gb1096) := ⟨h6_⟩
                      have n7_ : Aside0 (gb1096 ≠ gb1089) := ⟨h7_⟩
                      have n8_ : Aside0 (gb1090 ≠ gb1096) := ⟨h8_⟩
                      have n9_ : Aside0 (gb1096 ≠ gb1090) := ⟨h9_⟩
                      have n10_ : Aside0 (gb1091 ≠ gb1096) := ⟨h10_⟩
                      have n11_ : Aside0 (gb1096 ≠ gb1091) := ⟨h11_⟩
                      have n12_ : Aside0 (Below w.heap.size w w10) := ⟨h12_⟩
                      clear BK1089
                      clear BK1090
                      clear BK1091
                      clear HB
                      clear h0_ h1_ h2_ h3_ h4_ h5_ h6_ h7_ h8_ h9_ h10_ h11_ h12_
                      have BK1089 := n0_
                      have BK1090 := n1_
                      have BK1091 := n2_
                      have BK1096 := n3_
                      have GW1096 := n4_
                      have GE1096 := n5_
                      have NB1089_1096 := n6_
                      have NB1096_1089 := n7_
                      have NB1090_1096 := n8_
                      have NB1096_1090 := n9_
                      have NB1091_1096 := n10_
                      have NB1096_1091 := n11_
                      have HB := n12_
                      clear n0_ n1_ n2_ n3_ n4_ n5_ n6_ n7_ n8_ n9_ n10_ n11_ n12_
                      have hHeld : w10.cell? ⟨gb1089, 0, none⟩ = some (.int .i64 a0_0) ∧ w10.cell? ⟨gb1089, 1, none⟩ = some (.int .i64 a0_1) ∧ w10.cell? ⟨gb1090, 0, none⟩ = some (.int .i64 a1_0) ∧ w10.cell? ⟨gb1090, 1, none⟩ = some (.int .i64 a1_1) := hS_
                      refine norm_ (a' := ?_) ?_ ?_
                      rotate_left
                      · simp only [putAll, Act.put, List.setIfInBounds_toArray, List.set_cons_zero, List.set_cons_succ]
                        rfl
                      refine two_ (i := 4) (j := 11) (Ni := some 11) (Nj := some 6) #[true, true, true, true, true, true, true, true, true, false, true, false, false, false] #[true, true, true, true, false, true, true, true, true, false, true, true, false, false] rfl rfl rfl rfl (two_of HT_.out (by kernel_rfl)) (by decide) (by decide) (fun K hK => ?_) (fun K hK => ?_)
                      · skip
                        refine goes_ Try.func220 (by kernel_rfl) rfl #[.int .i64 a0_0, .int .i64 a1_1] (by rfl) rfl rfl (by (try simp only [List.map_toArray, List.map_cons, List.map_nil]); first | done | rfl | (simp only [List.length_drop, List.length_take]; rfl)) ?_
                        with_reducible refine (impl_fractionOf.calls k a0_0 a1_1 t1092 t1093 _ A3.out).mono ?_
                        rintro e w11 ⟨rfl, hb⟩
                        refine ⟨_, rfl, ?_⟩
                        have n0_ := Aside0.mk (blk_below (g := gb1089) (o := .cells #[.int .i64 a0_0, .int .i64 a0_1] 147 (0, 0)) (by (with_reducible repeat (first | refine blk_drewN ?_ _ | refine blk_drew ?_ | refine blk_alloc ?_ _)); exact BK1089.out) hb)
                        have n1_ := Aside0.mk (blk_below (g := gb1090) (o := .cells #[.int .i64 a1_0, .int .i64 a1_1] 147 (0, 0)) (by (with_reducible repeat (first | refine blk_drewN ?_ _ | refine blk_drew ?_ | refine blk_alloc ?_ _)); exact BK1090.out) hb)
                        have n2_ := Aside0.mk (blk_below (g := gb1091) (o := .cells #[.int .i64 0, .int .i64 0] 147 (0, 0)) (by (with_reducible repeat (first | refine blk_drewN ?_ _ | refine blk_drew ?_ | refine blk_alloc ?_ _)); exact BK1091.out) hb)
                        have n3_ := Aside0.mk (blk_below (g := gb1096) (o := .cells #[.int .i64 0, .int .i64 0] 147 (0, 0)) (by (with_reducible repeat (first | refine blk_drewN ?_ _ | refine blk_drew ?_ | refine blk_alloc ?_ _)); exact BK1096.out) hb)
                        have n4_ := Aside0.mk (below_step (by repeat (first | (with_reducible first | exact HB.out | apply below_alloc | apply pw_below_drewN | apply below_drew1 | refine below_set ?_ GE1089.out | refine below_set ?_ GE1090.out | refine below_set ?_ GE1091.out | refine below_set ?_ GE1096.out) | exact HB.out)) hb)
                        clear BK1089
                        clear BK1090
                        clear BK1091
                        clear BK1096
                        clear HB
                        have BK1089 := n0_
                        have BK1090 := n1_
                        have BK1091 := n2_
                        have BK1096 := n3_
                        have HB := n4_
                        clear n0_ n1_ n2_ n3_ n4_
                        (try clear hb)
                        (try clear hb2)
                        (try clear hk)
                        (try clear hi)
                        refine hK.out _ _ ⟨(blk_cell BK1089.out 0).trans rfl, (blk_cell BK1089.out 1).trans rfl, (blk_cell BK1090.out 0).trans rfl, (blk_cell BK1090.out 1).trans rfl⟩ (fun hHeld => ?_)
                        clear hK K
                        refine norm_ (a' := ?_) ?_ ?_
                        rotate_left
                        · show Act.put _ (some 11) _ = _
                          simp only [Act.put, List.setIfInBounds_toArray, List.set_cons_zero, List.set_cons_succ, i64_w, i32_w]
                          rfl
                        exact norm_ (by first | (simp only [putAll, Act.put, List.setIfInBounds_toArray, List.set_cons_zero, List.set_cons_succ]; done) | (simp only [putAll, Act.put, List.setIfInBounds_toArray, List.set_cons_zero, List.set_cons_succ]; rfl)) (hJ4_10 (gb1096) _ ⟨hHeld, (by (with_reducible repeat (first | refine blk_drewN ?_ _ | refine blk_drew ?_ | refine blk_alloc ?_ _)); exact BK1089.out), (by (with_reducible repeat (first | refine blk_drewN ?_ _ | refine blk_drew ?_ | refine blk_alloc ?_ _)); exact BK1090.out), (by (with_reducible repeat (first | refine blk_drewN ?_ _ | refine blk_drew ?_ | refine blk_alloc ?_ _)); exact BK1091.out), (by (with_reducible repeat (first | refine blk_drewN ?_ _ | refine blk_drew ?_ | refine blk_alloc ?_ _)); exact BK1096.out), GW1096.out, GE1096.out, NB1089_1096.out, NB1096_1089.out, NB1090_1096.out, NB1096_1090.out, NB1091_1096.out, NB1096_1091.out, (by repeat (first | (with_reducible first | exact HB.out | apply below_alloc | apply pw_below_drewN | apply below_drew1 | refine below_set ?_ GE1089.out | refine below_set ?_ GE1090.out | refine below_set ?_ GE1091.out | refine below_set ?_ GE1096.out) | exact HB.out))⟩)
                      · skip
                        refine box_step ?hg (N := 6) ?hd (cs := #[.int .i64 0, .int .i64 0]) (t := 147) ?hr ?_; (case hd => rfl); (case hg => rfl); (case hr => first | (go_simp; done) | (go_simp; rfl))
                        intro gb1097 hg w11 hbox hb
                        have n0_ := Aside0.mk (blk_below (g := gb1089) (o := .cells #[.int .i64 a0_0, .int .i64 a0_1] 147 (0, 0)) (by (with_reducible repeat (first | refine blk_drewN ?_ _ | refine blk_drew ?_ | refine blk_alloc ?_ _)); exact BK1089.out) hb)
                        have n1_ := Aside0.mk (blk_below (g := gb1090) (o := .cells #[.int .i64 a1_0, .int .i64 a1_1] 147 (0, 0)) (by (with_reducible repeat (first | refine blk_drewN ?_ _ | refine blk_drew ?_ | refine blk_alloc ?_ _)); exact BK1090.out) hb)
                        have n2_ := Aside0.mk (blk_below (g := gb1091) (o := .cells #[.int .i64 0, .int .i64 0] 147 (0, 0)) (by (with_reducible repeat (first | refine blk_drewN ?_ _ | refine blk_drew ?_ | refine blk_alloc ?_ _)); exact BK1091.out) hb)
                        have n3_ := Aside0.mk (blk_below (g := gb1096) (o := .cells #[.int .i64 0, .int .i64 0] 147 (0, 0)) (by (with_reducible repeat (first | refine blk_drewN ?_ _ | refine blk_drew ?_ | refine blk_alloc ?_ _)); exact BK1096.out) hb)
                        have n4_ := Aside0.mk (below_step (by repeat (first | (with_reducible first | exact HB.out | apply below_alloc | apply pw_below_drewN | apply below_drew1 | refine below_set ?_ GE1089.out | refine below_set ?_ GE1090.out | refine below_set ?_ GE1091.out | refine below_set ?_ GE1096.out) | exact HB.out)) hb)
                        have n5_ := Aside0.mk (hbox)
                        have n6_ := Aside0.mk ((by rw [hg]; exact (below_size (by repeat (first | (with_reducible first | exact HB.out | apply below_alloc | apply pw_below_drewN | apply below_drew1 | refine below_set ?_ GE1089.out | refine below_set ?_ GE1090.out | refine below_set ?_ GE1091.out | refine below_set ?_ GE1096.out) | exact HB.out))) : w.heap.size ≤ gb1097))
                        have n7_ := Aside0.mk ((by rw [hg]; exact (below_size (by repeat (first | (with_reducible first | exact HB.out | apply below_alloc | apply pw_below_drewN | apply below_drew1 | refine below_set ?_ GE1089.out | refine below_set ?_ GE1090.out | refine below_set ?_ GE1091.out | refine below_set ?_ GE1096.out) | exact HB.out))) : w.heap.size ≤ gb1097))
                        have n8_ := Aside0.mk ((by rw [hg]; exact Nat.ne_of_lt (blk_lt (g := gb1089) (o := .cells #[.int .i64 a0_0, .int .i64 a0_1] 147 (0, 0)) (by (with_reducible repeat (first | refine blk_drewN ?_ _ | refine blk_drew ?_ | refine blk_alloc ?_ _)); exact BK1089.out)) : gb1089 ≠ gb1097))
                        have n9_ := Aside0.mk ((by rw [hg]; exact Nat.ne_of_gt (blk_lt (g := gb1089) (o := .cells #[.int .i64 a0_0, .int .i64 a0_1] 147 (0, 0)) (by (with_reducible repeat (first | refine blk_drewN ?_ _ | refine blk_drew ?_ | refine blk_alloc ?_ _)); exact BK1089.out)) : gb1097 ≠ gb1089))
                        have n10_ := Aside0.mk ((by rw [hg]; exact Nat.ne_of_lt (blk_lt (g := gb1090) (o := .cells #[.int .i64 a1_0, .int .i64 a1_1] 147 (0, 0)) (by (with_reducible repeat (first | refine blk_drewN ?_ _ | refine blk_drew ?_ | refine blk_alloc ?_ _)); exact BK1090.out)) : gb1090 ≠ gb1097))
                        have n11_ := Aside0.mk ((by rw [hg]; exact Nat.ne_of_gt (blk_lt (g := gb1090) (o := .cells #[.int .i64 a1_0, .int .i64 a1_1] 147 (0, 0)) (by (with_reducible repeat (first | refine blk_drewN ?_ _ | refine blk_drew ?_ | refine blk_alloc ?_ _)); exact BK1090.out)) : gb1097 ≠ gb1090))
                        have n12_ := Aside0.mk ((by rw [hg]; exact Nat.ne_of_lt (blk_lt (g := gb1091) (o := .cells #[.int .i64 0, .int .i64 0] 147 (0, 0)) (by (with_reducible repeat (first | refine blk_drewN ?_ _ | refine blk_drew ?_ | refine blk_alloc ?_ _)); exact BK1091.out)) : gb1091 ≠ gb1097))
                        have n13_ := Aside0.mk ((by rw [hg]; exact Nat.ne_of_gt (blk_lt (g := gb1091) (o := .cells #[.int .i64 0, .int .i64 0] 147 (0, 0)) (by (with_reducible repeat (first | refine blk_drewN ?_ _ | refine blk_drew ?_ | refine blk_alloc ?_ _)); exact BK1091.out)) : gb1097 ≠ gb1091))
                        have n14_ := Aside0.mk ((by rw [hg]; exact Nat.ne_of_lt (blk_lt (g := gb1096) (o := .cells #[.int .i64 0, .int .i64 0] 147 (0, 0)) (by (with_reducible repeat (first | refine blk_drewN ?_ _ | refine blk_drew ?_ | refine blk_alloc ?_ _)); exact BK1096.out)) : gb1096 ≠ gb1097))
                        have n15_ := Aside0.mk ((by rw [hg]; exact Nat.ne_of_gt (blk_lt (g := gb1096) (o := .cells #[.int .i64 0, .int .i64 0] 147 (0, 0)) (by (with_reducible repeat (first | refine blk_drewN ?_ _ | refine blk_drew ?_ | refine blk_alloc ?_ _)); exact BK1096.out)) : gb1097 ≠ gb1096))
                        clear BK1089
                        clear BK1090
                        clear BK1091
                        clear BK1096
                        clear HB
                        have BK1089 := n0_
                        have BK1090 := n1_
                        have BK1091 := n2_
                        have BK1096 := n3_
                        have HB := n4_
                        have BK1097 := n5_
                        have GW1097 := n6_
                        have GE1097 := n7_
                        have NB1089_1097 := n8_
                        have NB1097_1089 := n9_
                        have NB1090_1097 := n10_
                        have NB1097_1090 := n11_
                        have NB1091_1097 := n12_
                        have NB1097_1091 := n13_
                        have NB1096_1097 := n14_
                        have NB1097_1096 := n15_
                        clear n0_ n1_ n2_ n3_ n4_ n5_ n6_ n7_ n8_ n9_ n10_ n11_ n12_ n13_ n14_ n15_
                        clear hb hbox hg
                        refine hK.out _ _ ⟨(blk_cell BK1089.out 0).trans rfl, (blk_cell BK1089.out 1).trans rfl, (blk_cell BK1090.out 0).trans rfl, (blk_cell BK1090.out 1).trans rfl⟩ (fun hHeld => ?_)
                        clear hK K
                        refine norm_ (a' := ?_) ?_ ?_
                        rotate_left
                        · show Act.put _ (some 6) _ = _
                          simp only [Act.put, List.setIfInBounds_toArray, List.set_cons_zero, List.set_cons_succ, i64_w, i32_w]
                          rfl
                        exact norm_ (by first | (simp only [putAll, Act.put, List.setIfInBounds_toArray, List.set_cons_zero, List.set_cons_succ]; done) | (simp only [putAll, Act.put, List.setIfInBounds_toArray, List.set_cons_zero, List.set_cons_succ]; rfl)) (hJ10_11 (gb1096, gb1097) _ ⟨hHeld, (by (with_reducible repeat (first | refine blk_drewN ?_ _ | refine blk_drew ?_ | refine blk_alloc ?_ _)); exact BK1089.out), (by (with_reducible repeat (first | refine blk_drewN ?_ _ | refine blk_drew ?_ | refine blk_alloc ?_ _)); exact BK1090.out), (by (with_reducible repeat (first | refine blk_drewN ?_ _ | refine blk_drew ?_ | refine blk_alloc ?_ _)); exact BK1091.out), (by (with_reducible repeat (first | refine blk_drewN ?_ _ | refine blk_drew ?_ | refine blk_alloc ?_ _)); exact BK1096.out), (by (with_reducible repeat (first | refine blk_drewN ?_ _ | refine blk_drew ?_ | refine blk_alloc ?_ _)); exact BK1097.out), GW1096.out, GE1096.out, NB1089_1096.out, NB1096_1089.out, NB1090_1096.out, NB1096_1090.out, NB1091_1096.out, NB1096_1091.out, NB1097_1096.out, NB1096_1097.out, GW1097.out, GE1097.out, NB1089_1097.out, NB1097_1089.out, NB1090_1097.out, NB1097_1090.out, NB1091_1097.out, NB1097_1091.out, (by repeat (first | (with_reducible first | exact HB.out | apply below_alloc | apply pw_below_drewN | apply below_drew1 | refine below_set ?_ GE1089.out | refine below_set ?_ GE1090.out | refine below_set ?_ GE1091.out | refine below_set ?_ GE1096.out | refine below_set ?_ GE1097.out) | exact HB.out))⟩)
                  · skip
                    rintro _ w10 ⟨hS_, h0_, h1_, h2_, h3_⟩
                    have n0_ : Aside0 (w10.heap[gb1089]? = some (.cells #[.int .i64 a0_0, .int .i64 a0_1] 147 (0, 0))) := ⟨h0_⟩
                    have n1_ : Aside0 (w10.heap[gb1090]? = some (.cells #[.int .i64 a1_0, .int .i64 a1_1] 147 (0, 0))) := ⟨h1_⟩
                    have n2_ : Aside0 (w10.heap[gb1091]? = some (.cells #[.int .i64 0, .int .i64 0] 147 (0, 0))) := ⟨h2_⟩
                    have n3_ : Aside0 (Below w.heap.size w w10) := ⟨h3_⟩
                    clear BK1089
                    clear BK1090
                    clear BK1091
                    clear HB
                    clear h0_ h1_ h2_ h3_
                    have BK1089 := n0_
                    have BK1090 := n1_
                    have BK1091 := n2_
                    have HB := n3_
                    clear n0_ n1_ n2_ n3_
                    have hHeld : w10.cell? ⟨gb1089, 0, none⟩ = some (.int .i64 a0_0) ∧ w10.cell? ⟨gb1089, 1, none⟩ = some (.int .i64 a0_1) ∧ w10.cell? ⟨gb1090, 0, none⟩ = some (.int .i64 a1_0) ∧ w10.cell? ⟨gb1090, 1, none⟩ = some (.int .i64 a1_1) := hS_
                    refine norm_ (a' := ?_) ?_ ?_
                    rotate_left
                    · simp only [putAll, Act.put, List.setIfInBounds_toArray, List.set_cons_zero, List.set_cons_succ]
                      rfl
                    refine three_ (i := 9) (j := 10) (k := 11) (Ni := some 16) (Nj := some 5) (Nk := some 6) #[true, true, true, true, true, true, true, true, true, true, false, false, false, false] #[true, true, true, true, true, true, true, true, true, false, true, false, false, false] #[true, true, true, true, true, true, true, true, true, false, false, true, false, false] rfl rfl rfl rfl rfl rfl (three_of HT_.out (by kernel_rfl)) (by decide) (by decide) (by decide) (fun K hK => ?_) (fun K hK => ?_) (fun K hK => ?_)
                    · skip
                      refine goes_ Try.func220 (by kernel_rfl) rfl #[.int .i64 a1_0, .int .i64 a0_1] (by rfl) rfl rfl (by (try simp only [List.map_toArray, List.map_cons, List.map_nil]); first | done | rfl | (simp only [List.length_drop, List.length_take]; rfl)) ?_
                      with_reducible refine (impl_fractionOf.calls k a1_0 a0_1 t1094 t1095 _ A4.out).mono ?_
                      rintro e w11 ⟨rfl, hb⟩
                      refine ⟨_, rfl, ?_⟩
                      have n0_ := Aside0.mk (blk_below (g := gb1089) (o := .cells #[.int .i64 a0_0, .int .i64 a0_1] 147 (0, 0)) (by (with_reducible repeat (first | refine blk_drewN ?_ _ | refine blk_drew ?_ | refine blk_alloc ?_ _)); exact BK1089.out) hb)
                      have n1_ := Aside0.mk (blk_below (g := gb1090) (o := .cells #[.int .i64 a1_0, .int .i64 a1_1] 147 (0, 0)) (by (with_reducible repeat (first | refine blk_drewN ?_ _ | refine blk_drew ?_ | refine blk_alloc ?_ _)); exact BK1090.out) hb)
                      have n2_ := Aside0.mk (blk_below (g := gb1091) (o := .cells #[.int .i64 0, .int .i64 0] 147 (0, 0)) (by (with_reducible repeat (first | refine blk_drewN ?_ _ | refine blk_drew ?_ | refine blk_alloc ?_ _)); exact BK1091.out) hb)
                      have n3_ := Aside0.mk (below_step (by repeat (first | (with_reducible first | exact HB.out | apply below_alloc | apply pw_below_drewN | apply below_drew1 | refine below_set ?_ GE1089.out | refine below_set ?_ GE1090.out | refine below_set ?_ GE1091.out) | exact HB.out)) hb)
                      clear BK1089
                      clear BK1090
                      clear BK1091
                      clear HB
                      have BK1089 := n0_
                      have BK1090 := n1_
                      have BK1091 := n2_
                      have HB := n3_
                      clear n0_ n1_ n2_ n3_
                      (try clear hb)
                      (try clear hb2)
                      (try clear hk)
                      (try clear hi)
                      refine hK.out _ _ ⟨(blk_cell BK1089.out 0).trans rfl, (blk_cell BK1089.out 1).trans rfl, (blk_cell BK1090.out 0).trans rfl, (blk_cell BK1090.out 1).trans rfl⟩ (fun hHeld => ?_)
                      clear hK K
                      refine norm_ (a' := ?_) ?_ ?_
                      rotate_left
                      · show Act.put _ (some 16) _ = _
                        simp only [Act.put, List.setIfInBounds_toArray, List.set_cons_zero, List.set_cons_succ, i64_w, i32_w]
                        rfl
                      exact norm_ (by first | (simp only [putAll, Act.put, List.setIfInBounds_toArray, List.set_cons_zero, List.set_cons_succ]; done) | (simp only [putAll, Act.put, List.setIfInBounds_toArray, List.set_cons_zero, List.set_cons_succ]; rfl)) (hJ4_9 () _ ⟨hHeld, (by (with_reducible repeat (first | refine blk_drewN ?_ _ | refine blk_drew ?_ | refine blk_alloc ?_ _)); exact BK1089.out), (by (with_reducible repeat (first | refine blk_drewN ?_ _ | refine blk_drew ?_ | refine blk_alloc ?_ _)); exact BK1090.out), (by (with_reducible repeat (first | refine blk_drewN ?_ _ | refine blk_drew ?_ | refine blk_alloc ?_ _)); exact BK1091.out), (by repeat (first | (with_reducible first | exact HB.out | apply below_alloc | apply pw_below_drewN | apply below_drew1 | refine below_set ?_ GE1089.out | refine below_set ?_ GE1090.out | refine below_set ?_ GE1091.out) | exact HB.out))⟩)
                    · skip
                      refine box_step ?hg (N := 5) ?hd (cs := #[.int .i64 0, .int .i64 0]) (t := 147) ?hr ?_; (case hd => rfl); (case hg => rfl); (case hr => first | (go_simp; done) | (go_simp; rfl))
                      intro gb1096 hg w11 hbox hb
                      have n0_ := Aside0.mk (blk_below (g := gb1089) (o := .cells #[.int .i64 a0_0, .int .i64 a0_1] 147 (0, 0)) (by (with_reducible repeat (first | refine blk_drewN ?_ _ | refine blk_drew ?_ | refine blk_alloc ?_ _)); exact BK1089.out) hb)
                      have n1_ := Aside0.mk (blk_below (g := gb1090) (o := .cells #[.int .i64 a1_0, .int .i64 a1_1] 147 (0, 0)) (by (with_reducible repeat (first | refine blk_drewN ?_ _ | refine blk_drew ?_ | refine blk_alloc ?_ _)); exact BK1090.out) hb)
                      have n2_ := Aside0.mk (blk_below (g := gb1091) (o := .cells #[.int .i64 0, .int .i64 0] 147 (0, 0)) (by (with_reducible repeat (first | refine blk_drewN ?_ _ | refine blk_drew ?_ | refine blk_alloc ?_ _)); exact BK1091.out) hb)
                      have n3_ := Aside0.mk (below_step (by repeat (first | (with_reducible first | exact HB.out | apply below_alloc | apply pw_below_drewN | apply below_drew1 | refine below_set ?_ GE1089.out | refine below_set ?_ GE1090.out | refine below_set ?_ GE1091.out) | exact HB.out)) hb)
                      have n4_ := Aside0.mk (hbox)
                      have n5_ := Aside0.mk ((by rw [hg]; exact (below_size (by repeat (first | (with_reducible first | exact HB.out | apply below_alloc | apply pw_below_drewN | apply below_drew1 | refine below_set ?_ GE1089.out | refine below_set ?_ GE1090.out | refine below_set ?_ GE1091.out) | exact HB.out))) : w.heap.size ≤ gb1096))
                      have n6_ := Aside0.mk ((by rw [hg]; exact (below_size (by repeat (first | (with_reducible first | exact HB.out | apply below_alloc | apply pw_below_drewN | apply below_drew1 | refine below_set ?_ GE1089.out | refine below_set ?_ GE1090.out | refine below_set ?_ GE1091.out) | exact HB.out))) : w.heap.size ≤ gb1096))
                      have n7_ := Aside0.mk ((by rw [hg]; exact Nat.ne_of_lt (blk_lt (g := gb1089) (o := .cells #[.int .i64 a0_0, .int .i64 a0_1] 147 (0, 0)) (by (with_reducible repeat (first | refine blk_drewN ?_ _ | refine blk_drew ?_ | refine blk_alloc ?_ _)); exact BK1089.out)) : gb1089 ≠ gb1096))
                      have n8_ := Aside0.mk ((by rw [hg]; exact Nat.ne_of_gt (blk_lt (g := gb1089) (o := .cells #[.int .i64 a0_0, .int .i64 a0_1] 147 (0, 0)) (by (with_reducible repeat (first | refine blk_drewN ?_ _ | refine blk_drew ?_ | refine blk_alloc ?_ _)); exact BK1089.out)) : gb1096 ≠ gb1089))
                      have n9_ := Aside0.mk ((by rw [hg]; exact Nat.ne_of_lt (blk_lt (g := gb1090) (o := .cells #[.int .i64 a1_0, .int .i64 a1_1] 147 (0, 0)) (by (with_reducible repeat (first | refine blk_drewN ?_ _ | refine blk_drew ?_ | refine blk_alloc ?_ _)); exact BK1090.out)) : gb1090 ≠ gb1096))
                      have n10_ := Aside0.mk ((by rw [hg]; exact Nat.ne_of_gt (blk_lt (g := gb1090) (o := .cells #[.int .i64 a1_0, .int .i64 a1_1] 147 (0, 0)) (by (with_reducible repeat (first | refine blk_drewN ?_ _ | refine blk_drew ?_ | refine blk_alloc ?_ _)); exact BK1090.out)) : gb1096 ≠ gb1090))
                      have n11_ := Aside0.mk ((by rw [hg]; exact Nat.ne_of_lt (blk_lt (g := gb1091) (o := .cells #[.int .i64 0, .int .i64 0] 147 (0, 0)) (by (with_reducible repeat (first | refine blk_drewN ?_ _ | refine blk_drew ?_ | refine blk_alloc ?_ _)); exact BK1091.out)) : gb1091 ≠ gb1096))
                      have n12_ := Aside0.mk ((by rw [hg]; exact Nat.ne_of_gt (blk_lt (g := gb1091) (o := .cells #[.int .i64 0, .int .i64 0] 147 (0, 0)) (by (with_reducible repeat (first | refine blk_drewN ?_ _ | refine blk_drew ?_ | refine blk_alloc ?_ _)); exact BK1091.out)) : gb1096 ≠ gb1091))
                      clear BK1089
                      clear BK1090
                      clear BK1091
                      clear HB
                      have BK1089 := n0_
                      have BK1090 := n1_
                      have BK1091 := n2_
                      have HB := n3_
                      have BK1096 := n4_
                      have GW1096 := n5_
                      have GE1096 := n6_
                      have NB1089_1096 := n7_
                      have NB1096_1089 := n8_
                      have NB1090_1096 := n9_
                      have NB1096_1090 := n10_
                      have NB1091_1096 := n11_
                      have NB1096_1091 := n12_
                      clear n0_ n1_ n2_ n3_ n4_ n5_ n6_ n7_ n8_ n9_ n10_ n11_ n12_
                      clear hb hbox hg
                      refine hK.out _ _ ⟨(blk_cell BK1089.out 0).trans rfl, (blk_cell BK1089.out 1).trans rfl, (blk_cell BK1090.out 0).trans rfl, (blk_cell BK1090.out 1).trans rfl⟩ (fun hHeld => ?_)
                      clear hK K
                      refine norm_ (a' := ?_) ?_ ?_
                      rotate_left
                      · show Act.put _ (some 5) _ = _
                        simp only [Act.put, List.setIfInBounds_toArray, List.set_cons_zero, List.set_cons_succ, i64_w, i32_w]
                        rfl
                      exact norm_ (by first | (simp only [putAll, Act.put, List.setIfInBounds_toArray, List.set_cons_zero, List.set_cons_succ]; done) | (simp only [putAll, Act.put, List.setIfInBounds_toArray, List.set_cons_zero, List.set_cons_succ]; rfl)) (hJ4_10 (gb1096) _ ⟨hHeld, (by (with_reducible repeat (first | refine blk_drewN ?_ _ | refine blk_drew ?_ | refine blk_alloc ?_ _)); exact BK1089.out), (by (with_reducible repeat (first | refine blk_drewN ?_ _ | refine blk_drew ?_ | refine blk_alloc ?_ _)); exact BK1090.out), (by (with_reducible repeat (first | refine blk_drewN ?_ _ | refine blk_drew ?_ | refine blk_alloc ?_ _)); exact BK1091.out), (by (with_reducible repeat (first | refine blk_drewN ?_ _ | refine blk_drew ?_ | refine blk_alloc ?_ _)); exact BK1096.out), GW1096.out, GE1096.out, NB1089_1096.out, NB1096_1089.out, NB1090_1096.out, NB1096_1090.out, NB1091_1096.out, NB1096_1091.out, (by repeat (first | (with_reducible first | exact HB.out | apply below_alloc | apply pw_below_drewN | apply below_drew1 | refine below_set ?_ GE1089.out | refine below_set ?_ GE1090.out | refine below_set ?_ GE1091.out | refine below_set ?_ GE1096.out) | exact HB.out))⟩)
                    · skip
                      refine box_step ?hg (N := 6) ?hd (cs := #[.int .i64 0, .int .i64 0]) (t := 147) ?hr ?_; (case hd => rfl); (case hg => rfl); (case hr => first | (go_simp; done) | (go_simp; rfl))
                      intro gb1097 hg w11 hbox hb
                      have n0_ := Aside0.mk (blk_below (g := gb1089) (o := .cells #[.int .i64 a0_0, .int .i64 a0_1] 147 (0, 0)) (by (with_reducible repeat (first | refine blk_drewN ?_ _ | refine blk_drew ?_ | refine blk_alloc ?_ _)); exact BK1089.out) hb)
                      have n1_ := Aside0.mk (blk_below (g := gb1090) (o := .cells #[.int .i64 a1_0, .int .i64 a1_1] 147 (0, 0)) (by (with_reducible repeat (first | refine blk_drewN ?_ _ | refine blk_drew ?_ | refine blk_alloc ?_ _)); exact BK1090.out) hb)
                      have n2_ := Aside0.mk (blk_below (g := gb1091) (o := .cells #[.int .i64 0, .int .i64 0] 147 (0, 0)) (by (with_reducible repeat (first | refine blk_drewN ?_ _ | refine blk_drew ?_ | refine blk_alloc ?_ _)); exact BK1091.out) hb)
                      have n3_ := Aside0.mk (below_step (by repeat (first | (with_reducible first | exact HB.out | apply below_alloc | apply pw_below_drewN | apply below_drew1 | refine below_set ?_ GE1089.out | refine below_set ?_ GE1090.out | refine below_set ?_ GE1091.out) | exact HB.out)) hb)
                      have n4_ := Aside0.mk (hbox)
                      have n5_ := Aside0.mk ((by rw [hg]; exact (below_size (by repeat (first | (with_reducible first | exact HB.out | apply below_alloc | apply pw_below_drewN | apply below_drew1 | refine below_set ?_ GE1089.out | refine below_set ?_ GE1090.out | refine below_set ?_ GE1091.out) | exact HB.out))) : w.heap.size ≤ gb1097))
                      have n6_ := Aside0.mk ((by rw [hg]; exact (below_size (by repeat (first | (with_reducible first | exact HB.out | apply below_alloc | apply pw_below_drewN | apply below_drew1 | refine below_set ?_ GE1089.out | refine below_set ?_ GE1090.out | refine below_set ?_ GE1091.out) | exact HB.out))) : w.heap.size ≤ gb1097))
                      have n7_ := Aside0.mk ((by rw [hg]; exact Nat.ne_of_lt (blk_lt (g := gb1089) (o := .cells #[.int .i64 a0_0, .int .i64 a0_1] 147 (0, 0)) (by (with_reducible repeat (first | refine blk_drewN ?_ _ | refine blk_drew ?_ | refine blk_alloc ?_ _)); exact BK1089.out)) : gb1089 ≠ gb1097))
                      have n8_ := Aside0.mk ((by rw [hg]; exact Nat.ne_of_gt (blk_lt (g := gb1089) (o := .cells #[.int .i64 a0_0, .int .i64 a0_1] 147 (0, 0)) (by (with_reducible repeat (first | refine blk_drewN ?_ _ | refine blk_drew ?_ | refine blk_alloc ?_ _)); exact BK1089.out)) : gb1097 ≠ gb1089))
                      have n9_ := Aside0.mk ((by rw [hg]; exact Nat.ne_of_lt (blk_lt (g := gb1090) (o := .cells #[.int .i64 a1_0, .int .i64 a1_1] 147 (0, 0)) (by (with_reducible repeat (first | refine blk_drewN ?_ _ | refine blk_drew ?_ | refine blk_alloc ?_ _)); exact BK1090.out)) : gb1090 ≠ gb1097))
                      have n10_ := Aside0.mk ((by rw [hg]; exact Nat.ne_of_gt (blk_lt (g := gb1090) (o := .cells #[.int .i64 a1_0, .int .i64 a1_1] 147 (0, 0)) (by (with_reducible repeat (first | refine blk_drewN ?_ _ | refine blk_drew ?_ | refine blk_alloc ?_ _)); exact BK1090.out)) : gb1097 ≠ gb1090))
                      have n11_ := Aside0.mk ((by rw [hg]; exact Nat.ne_of_lt (blk_lt (g := gb1091) (o := .cells #[.int .i64 0, .int .i64 0] 147 (0, 0)) (by (with_reducible repeat (first | refine blk_drewN ?_ _ | refine blk_drew ?_ | refine blk_alloc ?_ _)); exact BK1091.out)) : gb1091 ≠ gb1097))
                      have n12_ := Aside0.mk ((by rw [hg]; exact Nat.ne_of_gt (blk_lt (g := gb1091) (o := .cells #[.int .i64 0, .int .i64 0] 147 (0, 0)) (by (with_reducible repeat (first | refine blk_drewN ?_ _ | refine blk_drew ?_ | refine blk_alloc ?_ _)); exact BK1091.out)) : gb1097 ≠ gb1091))
                      clear BK1089
                      clear BK1090
                      clear BK1091
                      clear HB
                      have BK1089 := n0_
                      have BK1090 := n1_
                      have BK1091 := n2_
                      have HB := n3_
                      have BK1097 := n4_
                      have GW1097 := n5_
                      have GE1097 := n6_
                      have NB1089_1097 := n7_
                      have NB1097_1089 := n8_
                      have NB1090_1097 := n9_
                      have NB1097_1090 := n10_
                      have NB1091_1097 := n11_
                      have NB1097_1091 := n12_
                      clear n0_ n1_ n2_ n3_ n4_ n5_ n6_ n7_ n8_ n9_ n10_ n11_ n12_
                      clear hb hbox hg
                      refine hK.out _ _ ⟨(blk_cell BK1089.out 0).trans rfl, (blk_cell BK1089.out 1).trans rfl, (blk_cell BK1090.out 0).trans rfl, (blk_cell BK1090.out 1).trans rfl⟩ (fun hHeld => ?_)
                      clear hK K
                      refine norm_ (a' := ?_) ?_ ?_
                      rotate_left
                      · show Act.put _ (some 6) _ = _
                        simp only [Act.put, List.setIfInBounds_toArray, List.set_cons_zero, List.set_cons_succ, i64_w, i32_w]
                        rfl
                      exact norm_ (by first | (simp only [putAll, Act.put, List.setIfInBounds_toArray, List.set_cons_zero, List.set_cons_succ]; done) | (simp only [putAll, Act.put, List.setIfInBounds_toArray, List.set_cons_zero, List.set_cons_succ]; rfl)) (hJ4_11 (gb1097) _ ⟨hHeld, (by (with_reducible repeat (first | refine blk_drewN ?_ _ | refine blk_drew ?_ | refine blk_alloc ?_ _)); exact BK1089.out), (by (with_reducible repeat (first | refine blk_drewN ?_ _ | refine blk_drew ?_ | refine blk_alloc ?_ _)); exact BK1090.out), (by (with_reducible repeat (first | refine blk_drewN ?_ _ | refine blk_drew ?_ | refine blk_alloc ?_ _)); exact BK1091.out), (by (with_reducible repeat (first | refine blk_drewN ?_ _ | refine blk_drew ?_ | refine blk_alloc ?_ _)); exact BK1097.out), GW1097.out, GE1097.out, NB1089_1097.out, NB1097_1089.out, NB1090_1097.out, NB1097_1090.out, NB1091_1097.out, NB1097_1091.out, (by repeat (first | (with_reducible first | exact HB.out | apply below_alloc | apply pw_below_drewN | apply below_drew1 | refine below_set ?_ GE1089.out | refine below_set ?_ GE1090.out | refine below_set ?_ GE1091.out | refine below_set ?_ GE1097.out) | exact HB.out))⟩)
                · skip
                  rintro ⟨gb1096, gb1097⟩ w11 ⟨hS_, h0_, h1_, h2_, h3_, h4_, h5_, h6_, h7_, h8_, h9_, h10_, h11_, h12_, h13_, h14_, h15_, h16_, h17_, h18_, h19_, h20_, h21_, h22_, h23_⟩
                  have n0_ : Aside0 (w11.heap[gb1089]? = some (.cells #[.int .i64 a0_0, .int .i64 a0_1] 147 (0, 0))) := ⟨h0_⟩
                  have n1_ : Aside0 (w11.heap[gb1090]? = some (.cells #[.int .i64 a1_0, .int .i64 a1_1] 147 (0, 0))) := ⟨h1_⟩
                  have n2_ : Aside0 (w11.heap[gb1091]? = some (.cells #[.int .i64 0, .int .i64 0] 147 (0, 0))) := ⟨h2_⟩
                  have n3_ : Aside0 (w11.heap[gb1096]? = some (.cells #[.int .i64 0, .int .i64 0] 147 (0, 0))) := ⟨h3_⟩
                  have n4_ : Aside0 (w11.heap[gb1097]? = some (.cells #[.int .i64 0, .int .i64 0] 147 (0, 0))) := ⟨h4_⟩
                  have n5_ : Aside0 (w.heap.size ≤ gb1096) := ⟨h5_⟩
                  have n6_ : Aside0 (w.heap.size ≤ gb1096) := ⟨h6_⟩
                  have n7_ : Aside0 (gb1089 ≠ gb1096) := ⟨h7_⟩
                  have n8_ : Aside0 (gb1096 ≠ gb1089) := ⟨h8_⟩
                  have n9_ : Aside0 (gb1090 ≠ gb1096) := ⟨h9_⟩
                  have n10_ : Aside0 (gb1096 ≠ gb1090) := ⟨h10_⟩
                  have n11_ : Aside0 (gb1091 ≠ gb1096) := ⟨h11_⟩
                  have n12_ : Aside0 (gb1096 ≠ gb1091) := ⟨h12_⟩
                  have n13_ : Aside0 (gb1097 ≠ gb1096) := ⟨h13_⟩
                  have n14_ : Aside0 (gb1096 ≠ gb1097) := ⟨h14_⟩
                  have n15_ : Aside0 (w.heap.size ≤ gb1097) := ⟨h15_⟩
                  have n16_ : Aside0 (w.heap.size ≤ gb1097) := ⟨h16_⟩
                  have n17_ : Aside0 (gb1089 ≠ gb1097) := ⟨h17_⟩
                  have n18_ : Aside0 (gb1097 ≠ gb1089) := ⟨h18_⟩
                  have n19_ : Aside0 (gb1090 ≠ gb1097) := ⟨h19_⟩
                  have n20_ : Aside0 (gb1097 ≠ gb1090) := ⟨h20_⟩
                  have n21_ : Aside0 (gb1091 ≠ gb1097) := ⟨h21_⟩
                  have n22_ : Aside0 (gb1097 ≠ gb1091) := ⟨h22_⟩
                  have n23_ : Aside0 (Below w.heap.size w w11) := ⟨h23_⟩
                  clear BK1089
                  clear BK1090
                  clear BK1091
                  clear HB
                  clear h0_ h1_ h2_ h3_ h4_ h5_ h6_ h7_ h8_ h9_ h10_ h11_ h12_ h13_ h14_ h15_ h16_ h17_ h18_ h19_ h20_ h21_ h22_ h23_
                  have BK1089 := n0_
                  have BK1090 := n1_
                  have BK1091 := n2_
                  have BK1096 := n3_
                  have BK1097 := n4_
                  have GW1096 := n5_
                  have GE1096 := n6_
                  have NB1089_1096 := n7_
                  have NB1096_1089 := n8_
                  have NB1090_1096 := n9_
                  have NB1096_1090 := n10_
                  have NB1091_1096 := n11_
                  have NB1096_1091 := n12_
                  have NB1097_1096 := n13_
                  have NB1096_1097 := n14_
                  have GW1097 := n15_
                  have GE1097 := n16_
                  have NB1089_1097 := n17_
                  have NB1097_1089 := n18_
                  have NB1090_1097 := n19_
                  have NB1097_1090 := n20_
                  have NB1091_1097 := n21_
                  have NB1097_1091 := n22_
                  have HB := n23_
                  clear n0_ n1_ n2_ n3_ n4_ n5_ n6_ n7_ n8_ n9_ n10_ n11_ n12_ n13_ n14_ n15_ n16_ n17_ n18_ n19_ n20_ n21_ n22_ n23_
                  have hHeld : w11.cell? ⟨gb1089, 0, none⟩ = some (.int .i64 a0_0) ∧ w11.cell? ⟨gb1089, 1, none⟩ = some (.int .i64 a0_1) ∧ w11.cell? ⟨gb1090, 0, none⟩ = some (.int .i64 a1_0) ∧ w11.cell? ⟨gb1090, 1, none⟩ = some (.int .i64 a1_1) := hS_
                  refine norm_ (a' := ?_) ?_ ?_
                  rotate_left
                  · simp only [putAll, Act.put, List.setIfInBounds_toArray, List.set_cons_zero, List.set_cons_succ]
                    rfl
                  refine one_ (i := 4) (N := some 11) #[true, true, true, true, true, true, true, true, true, false, true, true, false, false] rfl rfl (one_of HT_.out (by kernel_rfl)) (by decide) (fun K hK => ?_)
                  refine goes_ Try.func220 (by kernel_rfl) rfl #[.int .i64 a0_0, .int .i64 a1_1] (by rfl) rfl rfl (by (try simp only [List.map_toArray, List.map_cons, List.map_nil]); first | done | rfl | (simp only [List.length_drop, List.length_take]; rfl)) ?_
                  with_reducible refine (impl_fractionOf.calls k a0_0 a1_1 t1092 t1093 _ A3.out).mono ?_
                  rintro e w12 ⟨rfl, hb⟩
                  refine ⟨_, rfl, ?_⟩
                  have n0_ := Aside0.mk (blk_below (g := gb1089) (o := .cells #[.int .i64 a0_0, .int .i64 a0_1] 147 (0, 0)) (by (with_reducible repeat (first | refine blk_drewN ?_ _ | refine blk_drew ?_ | refine blk_alloc ?_ _)); exact BK1089.out) hb)
                  have n1_ := Aside0.mk (blk_below (g := gb1090) (o := .cells #[.int .i64 a1_0, .int .i64 a1_1] 147 (0, 0)) (by (with_reducible repeat (first | refine blk_drewN ?_ _ | refine blk_drew ?_ | refine blk_alloc ?_ _)); exact BK1090.out) hb)
                  have n2_ := Aside0.mk (blk_below (g := gb1091) (o := .cells #[.int .i64 0, .int .i64 0] 147 (0, 0)) (by (with_reducible repeat (first | refine blk_drewN ?_ _ | refine blk_drew ?_ | refine blk_alloc ?_ _)); exact BK1091.out) hb)
                  have n3_ := Aside0.mk (blk_below (g := gb1096) (o := .cells #[.int .i64 0, .int .i64 0] 147 (0, 0)) (by (with_reducible repeat (first | refine blk_drewN ?_ _ | refine blk_drew ?_ | refine blk_alloc ?_ _)); exact BK1096.out) hb)
                  have n4_ := Aside0.mk (blk_below (g := gb1097) (o := .cells #[.int .i64 0, .int .i64 0] 147 (0, 0)) (by (with_reducible repeat (first | refine blk_drewN ?_ _ | refine blk_drew ?_ | refine blk_alloc ?_ _)); exact BK1097.out) hb)
                  have n5_ := Aside0.mk (below_step (by repeat (first | (with_reducible first | exact HB.out | apply below_alloc | apply pw_below_drewN | apply below_drew1 | refine below_set ?_ GE1089.out | refine below_set ?_ GE1090.out | refine below_set ?_ GE1091.out | refine below_set ?_ GE1096.out | refine below_set ?_ GE1097.out) | exact HB.out)) hb)
                  clear BK1089
                  clear BK1090
                  clear BK1091
                  clear BK1096
                  clear BK1097
                  clear HB
                  have BK1089 := n0_
                  have BK1090 := n1_
                  have BK1091 := n2_
                  have BK1096 := n3_
                  have BK1097 := n4_
                  have HB := n5_
                  clear n0_ n1_ n2_ n3_ n4_ n5_
                  (try clear hb)
                  (try clear hb2)
                  (try clear hk)
                  (try clear hi)
                  refine hK.out _ _ ⟨(blk_cell BK1089.out 0).trans rfl, (blk_cell BK1089.out 1).trans rfl, (blk_cell BK1090.out 0).trans rfl, (blk_cell BK1090.out 1).trans rfl⟩ (fun hHeld => ?_)
                  clear hK K
                  refine norm_ (a' := ?_) ?_ ?_
                  rotate_left
                  · show Act.put _ (some 11) _ = _
                    simp only [Act.put, List.setIfInBounds_toArray, List.set_cons_zero, List.set_cons_succ, i64_w, i32_w]
                    rfl
                  exact norm_ (by first | (simp only [putAll, Act.put, List.setIfInBounds_toArray, List.set_cons_zero, List.set_cons_succ]; done) | (simp only [putAll, Act.put, List.setIfInBounds_toArray, List.set_cons_zero, List.set_cons_succ]; rfl)) (hJ4_10_11 (gb1096, gb1097) _ ⟨hHeld, (by (with_reducible repeat (first | refine blk_drewN ?_ _ | refine blk_drew ?_ | refine blk_alloc ?_ _)); exact BK1089.out), (by (with_reducible repeat (first | refine blk_drewN ?_ _ | refine blk_drew ?_ | refine blk_alloc ?_ _)); exact BK1090.out), (by (with_reducible repeat (first | refine blk_drewN ?_ _ | refine blk_drew ?_ | refine blk_alloc ?_ _)); exact BK1091.out), (by (with_reducible repeat (first | refine blk_drewN ?_ _ | refine blk_drew ?_ | refine blk_alloc ?_ _)); exact BK1096.out), (by (with_reducible repeat (first | refine blk_drewN ?_ _ | refine blk_drew ?_ | refine blk_alloc ?_ _)); exact BK1097.out), GW1096.out, GE1096.out, NB1089_1096.out, NB1096_1089.out, NB1090_1096.out, NB1096_1090.out, NB1091_1096.out, NB1096_1091.out, NB1097_1096.out, NB1096_1097.out, GW1097.out, GE1097.out, NB1089_1097.out, NB1097_1089.out, NB1090_1097.out, NB1097_1090.out, NB1091_1097.out, NB1097_1091.out, (by repeat (first | (with_reducible first | exact HB.out | apply below_alloc | apply pw_below_drewN | apply below_drew1 | refine below_set ?_ GE1089.out | refine below_set ?_ GE1090.out | refine below_set ?_ GE1091.out | refine below_set ?_ GE1096.out | refine below_set ?_ GE1097.out) | exact HB.out))⟩)
              · skip
                rintro gb1097 w11 ⟨hS_, h0_, h1_, h2_, h3_, h4_, h5_, h6_, h7_, h8_, h9_, h10_, h11_, h12_⟩
                have n0_ : Aside0 (w11.heap[gb1089]? = some (.cells #[.int .i64 a0_0, .int .i64 a0_1] 147 (0, 0))) := ⟨h0_⟩
                have n1_ : Aside0 (w11.heap[gb1090]? = some (.cells #[.int .i64 a1_0, .int .i64 a1_1] 147 (0, 0))) := ⟨h1_⟩
                have n2_ : Aside0 (w11.heap[gb1091]? = some (.cells #[.int .i64 0, .int .i64 0] 147 (0, 0))) := ⟨h2_⟩
                have n3_ : Aside0 (w11.heap[gb1097]? = some (.cells #[.int .i64 0, .int .i64 0] 147 (0, 0))) := ⟨h3_⟩
                have n4_ : Aside0 (w.heap.size ≤ gb1097) := ⟨h4_⟩
                have n5_ : Aside0 (w.heap.size ≤ gb1097) := ⟨h5_⟩
                have n6_ : Aside0 (gb1089 ≠ gb1097) := ⟨h6_⟩
                have n7_ : Aside0 (gb1097 ≠ gb1089) := ⟨h7_⟩
                have n8_ : Aside0 (gb1090 ≠ gb1097) := ⟨h8_⟩
                have n9_ : Aside0 (gb1097 ≠ gb1090) := ⟨h9_⟩
                have n10_ : Aside0 (gb1091 ≠ gb1097) := ⟨h10_⟩
                have n11_ : Aside0 (gb1097 ≠ gb1091) := ⟨h11_⟩
                have n12_ : Aside0 (Below w.heap.size w w11) := ⟨h12_⟩
                clear BK1089
                clear BK1090
                clear BK1091
                clear HB
                clear h0_ h1_ h2_ h3_ h4_ h5_ h6_ h7_ h8_ h9_ h10_ h11_ h12_
                have BK1089 := n0_
                have BK1090 := n1_
                have BK1091 := n2_
                have BK1097 := n3_
                have GW1097 := n4_
                have GE1097 := n5_
                have NB1089_1097 := n6_
                have NB1097_1089 := n7_
                have NB1090_1097 := n8_
                have NB1097_1090 := n9_
                have NB1091_1097 := n10_
                have NB1097_1091 := n11_
                have HB := n12_
                clear n0_ n1_ n2_ n3_ n4_ n5_ n6_ n7_ n8_ n9_ n10_ n11_ n12_
                have hHeld : w11.cell? ⟨gb1089, 0, none⟩ = some (.int .i64 a0_0) ∧ w11.cell? ⟨gb1089, 1, none⟩ = some (.int .i64 a0_1) ∧ w11.cell? ⟨gb1090, 0, none⟩ = some (.int .i64 a1_0) ∧ w11.cell? ⟨gb1090, 1, none⟩ = some (.int .i64 a1_1) := hS_
                refine norm_ (a' := ?_) ?_ ?_
                rotate_left
                · simp only [putAll, Act.put, List.setIfInBounds_toArray, List.set_cons_zero, List.set_cons_succ]
                  rfl
                refine two_ (i := 9) (j := 10) (Ni := some 16) (Nj := some 5) #[true, true, true, true, true, true, true, true, true, true, false, true, false, false] #[true, true, true, true, true, true, true, true, true, false, true, true, false, false] rfl rfl rfl rfl (two_of HT_.out (by kernel_rfl)) (by decide) (by decide) (fun K hK => ?_) (fun K hK => ?_)
                · skip
                  refine goes_ Try.func220 (by kernel_rfl) rfl #[.int .i64 a1_0, .int .i64 a0_1] (by rfl) rfl rfl (by (try simp only [List.map_toArray, List.map_cons, List.map_nil]); first | done | rfl | (simp only [List.length_drop, List.length_take]; rfl)) ?_
                  with_reducible refine (impl_fractionOf.calls k a1_0 a0_1 t1094 t1095 _ A4.out).mono ?_
                  rintro e w12 ⟨rfl, hb⟩
                  refine ⟨_, rfl, ?_⟩
                  have n0_ := Aside0.mk (blk_below (g := gb1089) (o := .cells #[.int .i64 a0_0, .int .i64 a0_1] 147 (0, 0)) (by (with_reducible repeat (first | refine blk_drewN ?_ _ | refine blk_drew ?_ | refine blk_alloc ?_ _)); exact BK1089.out) hb)
                  have n1_ := Aside0.mk (blk_below (g := gb1090) (o := .cells #[.int .i64 a1_0, .int .i64 a1_1] 147 (0, 0)) (by (with_reducible repeat (first | refine blk_drewN ?_ _ | refine blk_drew ?_ | refine blk_alloc ?_ _)); exact BK1090.out) hb)
                  have n2_ := Aside0.mk (blk_below (g := gb1091) (o := .cells #[.int .i64 0, .int .i64 0] 147 (0, 0)) (by (with_reducible repeat (first | refine blk_drewN ?_ _ | refine blk_drew ?_ | refine blk_alloc ?_ _)); exact BK1091.out) hb)
                  have n3_ := Aside0.mk (blk_below (g := gb1097) (o := .cells #[.int .i64 0, .int .i64 0] 147 (0, 0)) (by (with_reducible repeat (first | refine blk_drewN ?_ _ | refine blk_drew ?_ | refine blk_alloc ?_ _)); exact BK1097.out) hb)
                  have n4_ := Aside0.mk (below_step (by repeat (first | (with_reducible first | exact HB.out | apply below_alloc | apply pw_below_drewN | apply below_drew1 | refine below_set ?_ GE1089.out | refine below_set ?_ GE1090.out | refine below_set ?_ GE1091.out | refine below_set ?_ GE1097.out) | exact HB.out)) hb)
                  clear BK1089
                  clear BK1090
                  clear BK1091
                  clear BK1097
                  clear HB
                  have BK1089 := n0_
                  have BK1090 := n1_
                  have BK1091 := n2_
                  have BK1097 := n3_
                  have HB := n4_
                  clear n0_ n1_ n2_ n3_ n4_
                  (try clear hb)
                  (try clear hb2)
                  (try clear hk)
                  (try clear hi)
                  refine hK.out _ _ ⟨(blk_cell BK1089.out 0).trans rfl, (blk_cell BK1089.out 1).trans rfl, (blk_cell BK1090.out 0).trans rfl, (blk_cell BK1090.out 1).trans rfl⟩ (fun hHeld => ?_)
                  clear hK K
                  refine norm_ (a' := ?_) ?_ ?_
                  rotate_left
                  · show Act.put _ (some 16) _ = _
                    simp only [Act.put, List.setIfInBounds_toArray, List.set_cons_zero, List.set_cons_succ, i64_w, i32_w]
                    rfl
                  exact norm_ (by first | (simp only [putAll, Act.put, List.setIfInBounds_toArray, List.set_cons_zero, List.set_cons_succ]; done) | (simp only [putAll, Act.put, List.setIfInBounds_toArray, List.set_cons_zero, List.set_cons_succ]; rfl)) (hJ4_9_11 (gb1097) _ ⟨hHeld, (by (with_reducible repeat (first | refine blk_drewN ?_ _ | refine blk_drew ?_ | refine blk_alloc ?_ _)); exact BK1089.out), (by (with_reducible repeat (first | refine blk_drewN ?_ _ | refine blk_drew ?_ | refine blk_alloc ?_ _)); exact BK1090.out), (by (with_reducible repeat (first | refine blk_drewN ?_ _ | refine blk_drew ?_ | refine blk_alloc ?_ _)); exact BK1091.out), (by (with_reducible repeat (first | refine blk_drewN ?_ _ | refine blk_drew ?_ | refine blk_alloc ?_ _)); exact BK1097.out), GW1097.out, GE1097.out, NB1089_1097.out, NB1097_1089.out, NB1090_1097.out, NB1097_1090.out, NB1091_1097.out, NB1097_1091.out, (by repeat (first | (with_reducible first | exact HB.out | apply below_alloc | apply pw_below_drewN | apply below_drew1 | refine below_set ?_ GE1089.out | refine below_set ?_ GE1090.out | refine below_set ?_ GE1091.out | refine below_set ?_ GE1097.out) | exact HB.out))⟩)
                · skip
                  refine box_step ?hg (N := 5) ?hd (cs := #[.int .i64 0, .int .i64 0]) (t := 147) ?hr ?_; (case hd => rfl); (case hg => rfl); (case hr => first | (go_simp; done) | (go_simp; rfl))
                  intro gb1096 hg w12 hbox hb
                  have n0_ := Aside0.mk (blk_below (g := gb1089) (o := .cells #[.int .i64 a0_0, .int .i64 a0_1] 147 (0, 0)) (by (with_reducible repeat (first | refine blk_drewN ?_ _ | refine blk_drew ?_ | refine blk_alloc ?_ _)); exact BK1089.out) hb)
                  have n1_ := Aside0.mk (blk_below (g := gb1090) (o := .cells #[.int .i64 a1_0, .int .i64 a1_1] 147 (0, 0)) (by (with_reducible repeat (first | refine blk_drewN ?_ _ | refine blk_drew ?_ | refine blk_alloc ?_ _)); exact BK1090.out) hb)
                  have n2_ := Aside0.mk (blk_below (g := gb1091) (o := .cells #[.int .i64 0, .int .i64 0] 147 (0, 0)) (by (with_reducible repeat (first | refine blk_drewN ?_ _ | refine blk_drew ?_ | refine blk_alloc ?_ _)); exact BK1091.out) hb)
                  have n3_ := Aside0.mk (blk_below (g := gb1097) (o := .cells #[.int .i64 0, .int .i64 0] 147 (0, 0)) (by (with_reducible repeat (first | refine blk_drewN ?_ _ | refine blk_drew ?_ | refine blk_alloc ?_ _)); exact BK1097.out) hb)
                  have n4_ := Aside0.mk (below_step (by repeat (first | (with_reducible first | exact HB.out | apply below_alloc | apply pw_below_drewN | apply below_drew1 | refine below_set ?_ GE1089.out | refine below_set ?_ GE1090.out | refine below_set ?_ GE1091.out | refine below_set ?_ GE1097.out) | exact HB.out)) hb)
                  have n5_ := Aside0.mk (hbox)
                  have n6_ := Aside0.mk ((by rw [hg]; exact (below_size (by repeat (first | (with_reducible first | exact HB.out | apply below_alloc | apply pw_below_drewN | apply below_drew1 | refine below_set ?_ GE1089.out | refine below_set ?_ GE1090.out | refine below_set ?_ GE1091.out | refine below_set ?_ GE1097.out) | exact HB.out))) : w.heap.size ≤ gb1096))
                  have n7_ := Aside0.mk ((by rw [hg]; exact (below_size (by repeat (first | (with_reducible first | exact HB.out | apply below_alloc | apply pw_below_drewN | apply below_drew1 | refine below_set ?_ GE1089.out | refine below_set ?_ GE1090.out | refine below_set ?_ GE1091.out | refine below_set ?_ GE1097.out) | exact HB.out))) : w.heap.size ≤ gb1096))
                  have n8_ := Aside0.mk ((by rw [hg]; exact Nat.ne_of_lt (blk_lt (g := gb1089) (o := .cells #[.int .i64 a0_0, .int .i64 a0_1] 147 (0, 0)) (by (with_reducible repeat (first | refine blk_drewN ?_ _ | refine blk_drew ?_ | refine blk_alloc ?_ _)); exact BK1089.out)) : gb1089 ≠ gb1096))
                  have n9_ := Aside0.mk ((by rw [hg]; exact Nat.ne_of_gt (blk_lt (g := gb1089) (o := .cells #[.int .i64 a0_0, .int .i64 a0_1] 147 (0, 0)) (by (with_reducible repeat (first | refine blk_drewN ?_ _ | refine blk_drew ?_ | refine blk_alloc ?_ _)); exact BK1089.out)) : gb1096 ≠ gb1089))
                  have n10_ := Aside0.mk ((by rw [hg]; exact Nat.ne_of_lt (blk_lt (g := gb1090) (o := .cells #[.int .i64 a1_0, .int .i64 a1_1] 147 (0, 0)) (by (with_reducible repeat (first | refine blk_drewN ?_ _ | refine blk_drew ?_ | refine blk_alloc ?_ _)); exact BK1090.out)) : gb1090 ≠ gb1096))
                  have n11_ := Aside0.mk ((by rw [hg]; exact Nat.ne_of_gt (blk_lt (g := gb1090) (o := .cells #[.int .i64 a1_0, .int .i64 a1_1] 147 (0, 0)) (by (with_reducible repeat (first | refine blk_drewN ?_ _ | refine blk_drew ?_ | refine blk_alloc ?_ _)); exact BK1090.out)) : gb1096 ≠ gb1090))
                  have n12_ := Aside0.mk ((by rw [hg]; exact Nat.ne_of_lt (blk_lt (g := gb1091) (o := .cells #[.int .i64 0, .int .i64 0] 147 (0, 0)) (by (with_reducible repeat (first | refine blk_drewN ?_ _ | refine blk_drew ?_ | refine blk_alloc ?_ _)); exact BK1091.out)) : gb1091 ≠ gb1096))
                  have n13_ := Aside0.mk ((by rw [hg]; exact Nat.ne_of_gt (blk_lt (g := gb1091) (o := .cells #[.int .i64 0, .int .i64 0] 147 (0, 0)) (by (with_reducible repeat (first | refine blk_drewN ?_ _ | refine blk_drew ?_ | refine blk_alloc ?_ _)); exact BK1091.out)) : gb1096 ≠ gb1091))
                  have n14_ := Aside0.mk ((by rw [hg]; exact Nat.ne_of_lt (blk_lt (g := gb1097) (o := .cells #[.int .i64 0, .int .i64 0] 147 (0, 0)) (by (with_reducible repeat (first | refine blk_drewN ?_ _ | refine blk_drew ?_ | refine blk_alloc ?_ _)); exact BK1097.out)) : gb1097 ≠ gb1096))
                  have n15_ := Aside0.mk ((by rw [hg]; exact Nat.ne_of_gt (blk_lt (g := gb1097) (o := .cells #[.int .i64 0, .int .i64 0] 147 (0, 0)) (by (with_reducible repeat (first | refine blk_drewN ?_ _ | refine blk_drew ?_ | refine blk_alloc ?_ _)); exact BK1097.out)) : gb1096 ≠ gb1097))
                  clear BK1089
                  clear BK1090
                  clear BK1091
                  clear BK1097
                  clear HB
                  have BK1089 := n0_
                  have BK1090 := n1_
                  have BK1091 := n2_
                  have BK1097 := n3_
                  have HB := n4_
                  have BK1096 := n5_
                  have GW1096 := n6_
                  have GE1096 := n7_
                  have NB1089_1096 := n8_
                  have NB1096_1089 := n9_
                  have NB1090_1096 := n10_
                  have NB1096_1090 := n11_
                  have NB1091_1096 := n12_
                  have NB1096_1091 := n13_
                  have NB1097_1096 := n14_
                  have NB1096_1097 := n15_
                  clear n0_ n1_ n2_ n3_ n4_ n5_ n6_ n7_ n8_ n9_ n10_ n11_ n12_ n13_ n14_ n15_
                  clear hb hbox hg
                  refine hK.out _ _ ⟨(blk_cell BK1089.out 0).trans rfl, (blk_cell BK1089.out 1).trans rfl, (blk_cell BK1090.out 0).trans rfl, (blk_cell BK1090.out 1).trans rfl⟩ (fun hHeld => ?_)
                  clear hK K
                  refine norm_ (a' := ?_) ?_ ?_
                  rotate_left
                  · show Act.put _ (some 5) _ = _
                    simp only [Act.put, List.setIfInBounds_toArray, List.set_cons_zero, List.set_cons_succ, i64_w, i32_w]
                    rfl
                  exact norm_ (by first | (simp only [putAll, Act.put, List.setIfInBounds_toArray, List.set_cons_zero, List.set_cons_succ]; done) | (simp only [putAll, Act.put, List.setIfInBounds_toArray, List.set_cons_zero, List.set_cons_succ]; rfl)) (hJ4_10_11 (gb1096, gb1097) _ ⟨hHeld, (by (with_reducible repeat (first | refine blk_drewN ?_ _ | refine blk_drew ?_ | refine blk_alloc ?_ _)); exact BK1089.out), (by (with_reducible repeat (first | refine blk_drewN ?_ _ | refine blk_drew ?_ | refine blk_alloc ?_ _)); exact BK1090.out), (by (with_reducible repeat (first | refine blk_drewN ?_ _ | refine blk_drew ?_ | refine blk_alloc ?_ _)); exact BK1091.out), (by (with_reducible repeat (first | refine blk_drewN ?_ _ | refine blk_drew ?_ | refine blk_alloc ?_ _)); exact BK1096.out), (by (with_reducible repeat (first | refine blk_drewN ?_ _ | refine blk_drew ?_ | refine blk_alloc ?_ _)); exact BK1097.out), GW1096.out, GE1096.out, NB1089_1096.out, NB1096_1089.out, NB1090_1096.out, NB1096_1090.out, NB1091_1096.out, NB1096_1091.out, NB1097_1096.out, NB1096_1097.out, GW1097.out, GE1097.out, NB1089_1097.out, NB1097_1089.out, NB1090_1097.out, NB1097_1090.out, NB1091_1097.out, NB1097_1091.out, (by repeat (first | (with_reducible first | exact HB.out | apply below_alloc | apply pw_below_drewN | apply below_drew1 | refine below_set ?_ GE1089.out | refine below_set ?_ GE1090.out | refine below_set ?_ GE1091.out | refine below_set ?_ GE1097.out | refine below_set ?_ GE1096.out) | exact HB.out))⟩)
            · skip
              rintro gb1096 w11 ⟨hS_, h0_, h1_, h2_, h3_, h4_, h5_, h6_, h7_, h8_, h9_, h10_, h11_, h12_⟩
              have n0_ : Aside0 (w11.heap[gb1089]? = some (.cells #[.int .i64 a0_0, .int .i64 a0_1] 147 (0, 0))) := ⟨h0_⟩
              have n1_ : Aside0 (w11.heap[gb1090]? = some (.cells #[.int .i64 a1_0, .int .i64 a1_1] 147 (0, 0))) := ⟨h1_⟩
              have n2_ : Aside0 (w11.heap[gb1091]? = some (.cells #[.int .i64 0, .int .i64 0] 147 (0, 0))) := ⟨h2_⟩
              have n3_ : Aside0 (w11.heap[gb1096]? = some (.cells #[.int .i64 0, .int .i64 0] 147 (0, 0))) := ⟨h3_⟩
              have n4_ : Aside0 (w.heap.size ≤ gb1096) := ⟨h4_⟩
              have n5_ : Aside0 (w.heap.size ≤ gb1096) := ⟨h5_⟩
              have n6_ : Aside0 (gb1089 ≠ gb1096) := ⟨h6_⟩
              have n7_ : Aside0 (gb1096 ≠ gb1089) := ⟨h7_⟩
              have n8_ : Aside0 (gb1090 ≠ gb1096) := ⟨h8_⟩
              have n9_ : Aside0 (gb1096 ≠ gb1090) := ⟨h9_⟩
              have n10_ : Aside0 (gb1091 ≠ gb1096) := ⟨h10_⟩
              have n11_ : Aside0 (gb1096 ≠ gb1091) := ⟨h11_⟩
              have n12_ : Aside0 (Below w.heap.size w w11) := ⟨h12_⟩
              clear BK1089
              clear BK1090
              clear BK1091
              clear HB
              clear h0_ h1_ h2_ h3_ h4_ h5_ h6_ h7_ h8_ h9_ h10_ h11_ h12_
              have BK1089 := n0_
              have BK1090 := n1_
              have BK1091 := n2_
              have BK1096 := n3_
              have GW1096 := n4_
              have GE1096 := n5_
              have NB1089_1096 := n6_
              have NB1096_1089 := n7_
              have NB1090_1096 := n8_
              have NB1096_1090 := n9_
              have NB1091_1096 := n10_
              have NB1096_1091 := n11_
              have HB := n12_
              clear n0_ n1_ n2_ n3_ n4_ n5_ n6_ n7_ n8_ n9_ n10_ n11_ n12_
              have hHeld : w11.cell? ⟨gb1089, 0, none⟩ = some (.int .i64 a0_0) ∧ w11.cell? ⟨gb1089, 1, none⟩ = some (.int .i64 a0_1) ∧ w11.cell? ⟨gb1090, 0, none⟩ = some (.int .i64 a1_0) ∧ w11.cell? ⟨gb1090, 1, none⟩ = some (.int .i64 a1_1) := hS_
              refine norm_ (a' := ?_) ?_ ?_
              rotate_left
              · simp only [putAll, Act.put, List.setIfInBounds_toArray, List.set_cons_zero, List.set_cons_succ]
                rfl
              refine two_ (i := 9) (j := 11) (Ni := some 16) (Nj := some 6) #[true, true, true, true, true, true, true, true, true, true, true, false, false, false] #[true, true, true, true, true, true, true, true, true, false, true, true, false, false] rfl rfl rfl rfl (two_of HT_.out (by kernel_rfl)) (by decide) (by decide) (fun K hK => ?_) (fun K hK => ?_)
              · skip
                refine goes_ Try.func220 (by kernel_rfl) rfl #[.int .i64 a1_0, .int .i64 a0_1] (by rfl) rfl rfl (by (try simp only [List.map_toArray, List.map_cons, List.map_nil]); first | done | rfl | (simp only [List.length_drop, List.length_take]; rfl)) ?_
                with_reducible refine (impl_fractionOf.calls k a1_0 a0_1 t1094 t1095 _ A4.out).mono ?_
                rintro e w12 ⟨rfl, hb⟩
                refine ⟨_, rfl, ?_⟩
                have n0_ := Aside0.mk (blk_below (g := gb1089) (o := .cells #[.int .i64 a0_0, .int .i64 a0_1] 147 (0, 0)) (by (with_reducible repeat (first | refine blk_drewN ?_ _ | refine blk_drew ?_ | refine blk_alloc ?_ _)); exact BK1089.out) hb)
                have n1_ := Aside0.mk (blk_below (g := gb1090) (o := .cells #[.int .i64 a1_0, .int .i64 a1_1] 147 (0, 0)) (by (with_reducible repeat (first | refine blk_drewN ?_ _ | refine blk_drew ?_ | refine blk_alloc ?_ _)); exact BK1090.out) hb)
                have n2_ := Aside0.mk (blk_below (g := gb1091) (o := .cells #[.int .i64 0, .int .i64 0] 147 (0, 0)) (by (with_reducible repeat (first | refine blk_drewN ?_ _ | refine blk_drew ?_ | refine blk_alloc ?_ _)); exact BK1091.out) hb)
                have n3_ := Aside0.mk (blk_below (g := gb1096) (o := .cells #[.int .i64 0, .int .i64 0] 147 (0, 0)) (by (with_reducible repeat (first | refine blk_drewN ?_ _ | refine blk_drew ?_ | refine blk_alloc ?_ _)); exact BK1096.out) hb)
                have n4_ := Aside0.mk (below_step (by repeat (first | (with_reducible first | exact HB.out | apply below_alloc | apply pw_below_drewN | apply below_drew1 | refine below_set ?_ GE1089.out | refine below_set ?_ GE1090.out | refine below_set ?_ GE1091.out | refine below_set ?_ GE1096.out) | exact HB.out)) hb)
                clear BK1089
                clear BK1090
                clear BK1091
                clear BK1096
                clear HB
                have BK1089 := n0_
                have BK1090 := n1_
                have BK1091 := n2_
                have BK1096 := n3_
                have HB := n4_
                clear n0_ n1_ n2_ n3_ n4_
                (try clear hb)
                (try clear hb2)
                (try clear hk)
                (try clear hi)
                refine hK.out _ _ ⟨(blk_cell BK1089.out 0).trans rfl, (blk_cell BK1089.out 1).trans rfl, (blk_cell BK1090.out 0).trans rfl, (blk_cell BK1090.out 1).trans rfl⟩ (fun hHeld => ?_)
                clear hK K
                refine norm_ (a' := ?_) ?_ ?_
                rotate_left
                · show Act.put _ (some 16) _ = _
                  simp only [Act.put, List.setIfInBounds_toArray, List.set_cons_zero, List.set_cons_succ, i64_w, i32_w]
                  rfl
                exact norm_ (by first | (simp only [putAll, Act.put, List.setIfInBounds_toArray, List.set_cons_zero, List.set_cons_succ]; done) | (simp only [putAll, Act.put, List.setIfInBounds_toArray, List.set_cons_zero, List.set_cons_succ]; rfl)) (hJ4_9_10 (gb1096) _ ⟨hHeld, (by (with_reducible repeat (first | refine blk_drewN ?_ _ | refine blk_drew ?_ | refine blk_alloc ?_ _)); exact BK1089.out), (by (with_reducible repeat (first | refine blk_drewN ?_ _ | refine blk_drew ?_ | refine blk_alloc ?_ _)); exact BK1090.out), (by (with_reducible repeat (first | refine blk_drewN ?_ _ | refine blk_drew ?_ | refine blk_alloc ?_ _)); exact BK1091.out), (by (with_reducible repeat (first | refine blk_drewN ?_ _ | refine blk_drew ?_ | refine blk_alloc ?_ _)); exact BK1096.out), GW1096.out, GE1096.out, NB1089_1096.out, NB1096_1089.out, NB1090_1096.out, NB1096_1090.out, NB1091_1096.out, NB1096_1091.out, (by repeat (first | (with_reducible first | exact HB.out | apply below_alloc | apply pw_below_drewN | apply below_drew1 | refine below_set ?_ GE1089.out | refine below_set ?_ GE1090.out | refine below_set ?_ GE1091.out | refine below_set ?_ GE1096.out) | exact HB.out))⟩)
              · skip
                refine box_step ?hg (N := 6) ?hd (cs := #[.int .i64 0, .int .i64 0]) (t := 147) ?hr ?_; (case hd => rfl); (case hg => rfl); (case hr => first | (go_simp; done) | (go_simp; rfl))
                intro gb1097 hg w12 hbox hb
                have n0_ := Aside0.mk (blk_below (g := gb1089) (o := .cells #[.int .i64 a0_0, .int .i64 a0_1] 147 (0, 0)) (by (with_reducible repeat (first | refine blk_drewN ?_ _ | refine blk_drew ?_ | refine blk_alloc ?_ _)); exact BK1089.out) hb)
                have n1_ := Aside0.mk (blk_below (g := gb1090) (o := .cells #[.int .i64 a1_0, .int .i64 a1_1] 147 (0, 0)) (by (with_reducible repeat (first | refine blk_drewN ?_ _ | refine blk_drew ?_ | refine blk_alloc ?_ _)); exact BK1090.out) hb)
                have n2_ := Aside0.mk (blk_below (g := gb1091) (o := .cells #[.int .i64 0, .int .i64 0] 147 (0, 0)) (by (with_reducible repeat (first | refine blk_drewN ?_ _ | refine blk_drew ?_ | refine blk_alloc ?_ _)); exact BK1091.out) hb)
                have n3_ := Aside0.mk (blk_below (g := gb1096) (o := .cells #[.int .i64 0, .int .i64 0] 147 (0, 0)) (by (with_reducible repeat (first | refine blk_drewN ?_ _ | refine blk_drew ?_ | refine blk_alloc ?_ _)); exact BK1096.out) hb)
                have n4_ := Aside0.mk (below_step (by repeat (first | (with_reducible first | exact HB.out | apply below_alloc | apply pw_below_drewN | apply below_drew1 | refine below_set ?_ GE1089.out | refine below_set ?_ GE1090.out | refine below_set ?_ GE1091.out | refine below_set ?_ GE1096.out) | exact HB.out)) hb)
                have n5_ := Aside0.mk (hbox)
                have n6_ := Aside0.mk ((by rw [hg]; exact (below_size (by repeat (first | (with_reducible first | exact HB.out | apply below_alloc | apply pw_below_drewN | apply below_drew1 | refine below_set ?_ GE1089.out | refine below_set ?_ GE1090.out | refine below_set ?_ GE1091.out | refine below_set ?_ GE1096.out) | exact HB.out))) : w.heap.size ≤ gb1097))
                have n7_ := Aside0.mk ((by rw [hg]; exact (below_size (by repeat (first | (with_reducible first | exact HB.out | apply below_alloc | apply pw_below_drewN | apply below_drew1 | refine below_set ?_ GE1089.out | refine below_set ?_ GE1090.out | refine below_set ?_ GE1091.out | refine below_set ?_ GE1096.out) | exact HB.out))) : w.heap.size ≤ gb1097))
                have n8_ := Aside0.mk ((by rw [hg]; exact Nat.ne_of_lt (blk_lt (g := gb1089) (o := .cells #[.int .i64 a0_0, .int .i64 a0_1] 147 (0, 0)) (by (with_reducible repeat (first | refine blk_drewN ?_ _ | refine blk_drew ?_ | refine blk_alloc ?_ _)); exact BK1089.out)) : gb1089 ≠ gb1097))
                have n9_ := Aside0.mk ((by rw [hg]; exact Nat.ne_of_gt (blk_lt (g := gb1089) (o := .cells #[.int .i64 a0_0, .int .i64 a0_1] 147 (0, 0)) (by (with_reducible repeat (first | refine blk_drewN ?_ _ | refine blk_drew ?_ | refine blk_alloc ?_ _)); exact BK1089.out)) : gb1097 ≠ gb1089))
                have n10_ := Aside0.mk ((by rw [hg]; exact Nat.ne_of_lt (blk_lt (g := gb1090) (o := .cells #[.int .i64 a1_0, .int .i64 a1_1] 147 (0, 0)) (by (with_reducible repeat (first | refine blk_drewN ?_ _ | refine blk_drew ?_ | refine blk_alloc ?_ _)); exact BK1090.out)) : gb1090 ≠ gb1097))
                have n11_ := Aside0.mk ((by rw [hg]; exact Nat.ne_of_gt (blk_lt (g := gb1090) (o := .cells #[.int .i64 a1_0, .int .i64 a1_1] 147 (0, 0)) (by (with_reducible repeat (first | refine blk_drewN ?_ _ | refine blk_drew ?_ | refine blk_alloc ?_ _)); exact BK1090.out)) : gb1097 ≠ gb1090))
                have n12_ := Aside0.mk ((by rw [hg]; exact Nat.ne_of_lt (blk_lt (g := gb1091) (o := .cells #[.int .i64 0, .int .i64 0] 147 (0, 0)) (by (with_reducible repeat (first | refine blk_drewN ?_ _ | refine blk_drew ?_ | refine blk_alloc ?_ _)); exact BK1091.out)) : gb1091 ≠ gb1097))
                have n13_ := Aside0.mk ((by rw [hg]; exact Nat.ne_of_gt (blk_lt (g := gb1091) (o := .cells #[.int .i64 0, .int .i64 0] 147 (0, 0)) (by (with_reducible repeat (first | refine blk_drewN ?_ _ | refine blk_drew ?_ | refine blk_alloc ?_ _)); exact BK1091.out)) : gb1097 ≠ gb1091))
                have n14_ := Aside0.mk ((by rw [hg]; exact Nat.ne_of_lt (blk_lt (g := gb1096) (o := .cells #[.int .i64 0, .int .i64 0] 147 (0, 0)) (by (with_reducible repeat (first | refine blk_drewN ?_ _ | refine blk_drew ?_ | refine blk_alloc ?_ _)); exact BK1096.out)) : gb1096 ≠ gb1097))
                have n15_ := Aside0.mk ((by rw [hg]; exact Nat.ne_of_gt (blk_lt (g := gb1096) (o := .cells #[.int .i64 0, .int .i64 0] 147 (0, 0)) (by (with_reducible repeat (first | refine blk_drewN ?_ _ | refine blk_drew ?_ | refine blk_alloc ?_ _)); exact BK1096.out)) : gb1097 ≠ gb1096))
                clear BK1089
                clear BK1090
                clear BK1091
                clear BK1096
                clear HB
                have BK1089 := n0_
                have BK1090 := n1_
                have BK1091 := n2_
                have BK1096 := n3_
                have HB := n4_
                have BK1097 := n5_
                have GW1097 := n6_
                have GE1097 := n7_
                have NB1089_1097 := n8_
                have NB1097_1089 := n9_
                have NB1090_1097 := n10_
                have NB1097_1090 := n11_
                have NB1091_1097 := n12_
                have NB1097_1091 := n13_
                have NB1096_1097 := n14_
                have NB1097_1096 := n15_
                clear n0_ n1_ n2_ n3_ n4_ n5_ n6_ n7_ n8_ n9_ n10_ n11_ n12_ n13_ n14_ n15_
                clear hb hbox hg
                refine hK.out _ _ ⟨(blk_cell BK1089.out 0).trans rfl, (blk_cell BK1089.out 1).trans rfl, (blk_cell BK1090.out 0).trans rfl, (blk_cell BK1090.out 1).trans rfl⟩ (fun hHeld => ?_)
                clear hK K
                refine norm_ (a' := ?_) ?_ ?_
                rotate_left
                · show Act.put _ (some 6) _ = _
                  simp only [Act.put, List.setIfInBounds_toArray, List.set_cons_zero, List.set_cons_succ, i64_w, i32_w]
                  rfl
                exact norm_ (by first | (simp only [putAll, Act.put, List.setIfInBounds_toArray, List.set_cons_zero, List.set_cons_succ]; done) | (simp only [putAll, Act.put, List.setIfInBounds_toArray, List.set_cons_zero, List.set_cons_succ]; rfl)) (hJ4_10_11 (gb1096, gb1097) _ ⟨hHeld, (by (with_reducible repeat (first | refine blk_drewN ?_ _ | refine blk_drew ?_ | refine blk_alloc ?_ _)); exact BK1089.out), (by (with_reducible repeat (first | refine blk_drewN ?_ _ | refine blk_drew ?_ | refine blk_alloc ?_ _)); exact BK1090.out), (by (with_reducible repeat (first | refine blk_drewN ?_ _ | refine blk_drew ?_ | refine blk_alloc ?_ _)); exact BK1091.out), (by (with_reducible repeat (first | refine blk_drewN ?_ _ | refine blk_drew ?_ | refine blk_alloc ?_ _)); exact BK1096.out), (by (with_reducible repeat (first | refine blk_drewN ?_ _ | refine blk_drew ?_ | refine blk_alloc ?_ _)); exact BK1097.out), GW1096.out, GE1096.out, NB1089_1096.out, NB1096_1089.out, NB1090_1096.out, NB1096_1090.out, NB1091_1096.out, NB1096_1091.out, NB1097_1096.out, NB1096_1097.out, GW1097.out, GE1097.out, NB1089_1097.out, NB1097_1089.out, NB1090_1097.out, NB1097_1090.out, NB1091_1097.out, NB1097_1091.out, (by repeat (first | (with_reducible first | exact HB.out | apply below_alloc | apply pw_below_drewN | apply below_drew1 | refine below_set ?_ GE1089.out | refine below_set ?_ GE1090.out | refine below_set ?_ GE1091.out | refine below_set ?_ GE1096.out | refine below_set ?_ GE1097.out) | exact HB.out))⟩)
          · skip
            rintro _ w11 ⟨hS_, h0_, h1_, h2_, h3_⟩
            have n0_ : Aside0 (w11.heap[gb1089]? = some (.cells #[.int .i64 a0_0, .int .i64 a0_1] 147 (0, 0))) := ⟨h0_⟩
            have n1_ : Aside0 (w11.heap[gb1090]? = some (.cells #[.int .i64 a1_0, .int .i64 a1_1] 147 (0, 0))) := ⟨h1_⟩
            have n2_ : Aside0 (w11.heap[gb1091]? = some (.cells #[.int .i64 0, .int .i64 0] 147 (0, 0))) := ⟨h2_⟩
            have n3_ : Aside0 (Below w.heap.size w w11) := ⟨h3_⟩
            clear BK1089
            clear BK1090
            clear BK1091
            clear HB
            clear h0_ h1_ h2_ h3_
            have BK1089 := n0_
            have BK1090 := n1_
            have BK1091 := n2_
            have HB := n3_
            clear n0_ n1_ n2_ n3_
            have hHeld : w11.cell? ⟨gb1089, 0, none⟩ = some (.int .i64 a0_0) ∧ w11.cell? ⟨gb1089, 1, none⟩ = some (.int .i64 a0_1) ∧ w11.cell? ⟨gb1090, 0, none⟩ = some (.int .i64 a1_0) ∧ w11.cell? ⟨gb1090, 1, none⟩ = some (.int .i64 a1_1) := hS_
            refine norm_ (a' := ?_) ?_ ?_
            rotate_left
            · simp only [putAll, Act.put, List.setIfInBounds_toArray, List.set_cons_zero, List.set_cons_succ]
              rfl
            refine two_ (i := 10) (j := 11) (Ni := some 5) (Nj := some 6) #[true, true, true, true, true, true, true, true, true, true, true, false, false, false] #[true, true, true, true, true, true, true, true, true, true, false, true, false, false] rfl rfl rfl rfl (two_of HT_.out (by kernel_rfl)) (by decide) (by decide) (fun K hK => ?_) (fun K hK => ?_)
            · skip
              refine box_step ?hg (N := 5) ?hd (cs := #[.int .i64 0, .int .i64 0]) (t := 147) ?hr ?_; (case hd => rfl); (case hg => rfl); (case hr => first | (go_simp; done) | (go_simp; rfl))
              intro gb1096 hg w12 hbox hb
              have n0_ := Aside0.mk (blk_below (g := gb1089) (o := .cells #[.int .i64 a0_0, .int .i64 a0_1] 147 (0, 0)) (by (with_reducible repeat (first | refine blk_drewN ?_ _ | refine blk_drew ?_ | refine blk_alloc ?_ _)); exact BK1089.out) hb)
              have n1_ := Aside0.mk (blk_below (g := gb1090) (o := .cells #[.int .i64 a1_0, .int .i64 a1_1] 147 (0, 0)) (by (with_reducible repeat (first | refine blk_drewN ?_ _ | refine blk_drew ?_ | refine blk_alloc ?_ _)); exact BK1090.out) hb)
              have n2_ := Aside0.mk (blk_below (g := gb1091) (o := .cells #[.int .i64 0, .int .i64 0] 147 (0, 0)) (by (with_reducible repeat (first | refine blk_drewN ?_ _ | refine blk_drew ?_ | refine blk_alloc ?_ _)); exact BK1091.out) hb)
              have n3_ := Aside0.mk (below_step (by repeat (first | (with_reducible first | exact HB.out | apply below_alloc | apply pw_below_drewN | apply below_drew1 | refine below_set ?_ GE1089.out | refine below_set ?_ GE1090.out | refine below_set ?_ GE1091.out) | exact HB.out)) hb)
              have n4_ := Aside0.mk (hbox)
              have n5_ := Aside0.mk ((by rw [hg]; exact (below_size (by repeat (first | (with_reducible first | exact HB.out | apply below_alloc | apply pw_below_drewN | apply below_drew1 | refine below_set ?_ GE1089.out | refine below_set ?_ GE1090.out | refine below_set ?_ GE1091.out) | exact HB.out))) : w.heap.size ≤ gb1096))
              have n6_ := Aside0.mk ((by rw [hg]; exact (below_size (by repeat (first | (with_reducible first | exact HB.out | apply below_alloc | apply pw_below_drewN | apply below_drew1 | refine below_set ?_ GE1089.out | refine below_set ?_ GE1090.out | refine below_set ?_ GE1091.out) | exact HB.out))) : w.heap.size ≤ gb1096))
              have n7_ := Aside0.mk ((by rw [hg]; exact Nat.ne_of_lt (blk_lt (g := gb1089) (o := .cells #[.int .i64 a0_0, .int .i64 a0_1] 147 (0, 0)) (by (with_reducible repeat (first | refine blk_drewN ?_ _ | refine blk_drew ?_ | refine blk_alloc ?_ _)); exact BK1089.out)) : gb1089 ≠ gb1096))
              have n8_ := Aside0.mk ((by rw [hg]; exact Nat.ne_of_gt (blk_lt (g := gb1089) (o := .cells #[.int .i64 a0_0, .int .i64 a0_1] 147 (0, 0)) (by (with_reducible repeat (first | refine blk_drewN ?_ _ | refine blk_drew ?_ | refine blk_alloc ?_ _)); exact BK1089.out)) : gb1096 ≠ gb1089))
              have n9_ := Aside0.mk ((by rw [hg]; exact Nat.ne_of_lt (blk_lt (g := gb1090) (o := .cells #[.int .i64 a1_0, .int .i64 a1_1] 147 (0, 0)) (by (with_reducible repeat (first | refine blk_drewN ?_ _ | refine blk_drew ?_ | refine blk_alloc ?_ _)); exact BK1090.out)) : gb1090 ≠ gb1096))
              have n10_ := Aside0.mk ((by rw [hg]; exact Nat.ne_of_gt (blk_lt (g := gb1090) (o := .cells #[.int .i64 a1_0, .int .i64 a1_1] 147 (0, 0)) (by (with_reducible repeat (first | refine blk_drewN ?_ _ | refine blk_drew ?_ | refine blk_alloc ?_ _)); exact BK1090.out)) : gb1096 ≠ gb1090))
              have n11_ := Aside0.mk ((by rw [hg]; exact Nat.ne_of_lt (blk_lt (g := gb1091) (o := .cells #[.int .i64 0, .int .i64 0] 147 (0, 0)) (by (with_reducible repeat (first | refine blk_drewN ?_ _ | refine blk_drew ?_ | refine blk_alloc ?_ _)); exact BK1091.out)) : gb1091 ≠ gb1096))
              have n12_ := Aside0.mk ((by rw [hg]; exact Nat.ne_of_gt (blk_lt (g := gb1091) (o := .cells #[.int .i64 0, .int .i64 0] 147 (0, 0)) (by (with_reducible repeat (first | refine blk_drewN ?_ _ | refine blk_drew ?_ | refine blk_alloc ?_ _)); exact BK1091.out)) : gb1096 ≠ gb1091))
              clear BK1089
              clear BK1090
              clear BK1091
              clear HB
              have BK1089 := n0_
              have BK1090 := n1_
              have BK1091 := n2_
              have HB := n3_
              have BK1096 := n4_
              have GW1096 := n5_
              have GE1096 := n6_
              have NB1089_1096 := n7_
              have NB1096_1089 := n8_
              have NB1090_1096 := n9_
              have NB1096_1090 := n10_
              have NB1091_1096 := n11_
              have NB1096_1091 := n12_
              clear n0_ n1_ n2_ n3_ n4_ n5_ n6_ n7_ n8_ n9_ n10_ n11_ n12_
              clear hb hbox hg
              refine hK.out _ _ ⟨(blk_cell BK1089.out 0).trans rfl, (blk_cell BK1089.out 1).trans rfl, (blk_cell BK1090.out 0).trans rfl, (blk_cell BK1090.out 1).trans rfl⟩ (fun hHeld => ?_)
              clear hK K
              refine norm_ (a' := ?_) ?_ ?_
              rotate_left
              · show Act.put _ (some 5) _ = _
                simp only [Act.put, List.setIfInBounds_toArray, List.set_cons_zero, List.set_cons_succ, i64_w, i32_w]
                rfl
              exact norm_ (by first | (simp only [putAll, Act.put, List.setIfInBounds_toArray, List.set_cons_zero, List.set_cons_succ]; done) | (simp only [putAll, Act.put, List.setIfInBounds_toArray, List.set_cons_zero, List.set_cons_succ]; rfl)) (hJ4_9_10 (gb1096) _ ⟨hHeld, (by (with_reducible repeat (first | refine blk_drewN ?_ _ | refine blk_drew ?_ | refine blk_alloc ?_ _)); exact BK1089.out), (by (with_reducible repeat (first | refine blk_drewN ?_ _ | refine blk_drew ?_ | refine blk_alloc ?_ _)); exact BK1090.out), (by (with_reducible repeat (first | refine blk_drewN ?_ _ | refine blk_drew ?_ | refine blk_alloc ?_ _)); exact BK1091.out), (by (with_reducible repeat (first | refine blk_drewN ?_ _ | refine blk_drew ?_ | refine blk_alloc ?_ _)); exact BK1096.out), GW1096.out, GE1096.out, NB1089_1096.out, NB1096_1089.out, NB1090_1096.out, NB1096_1090.out, NB1091_1096.out, NB1096_1091.out, (by repeat (first | (with_reducible first | exact HB.out | apply below_alloc | apply pw_below_drewN | apply below_drew1 | refine below_set ?_ GE1089.out | refine below_set ?_ GE1090.out | refine below_set ?_ GE1091.out | refine below_set ?_ GE1096.out) | exact HB.out))⟩)
            · skip
              refine box_step ?hg (N := 6) ?hd (cs := #[.int .i64 0, .int .i64 0]) (t := 147) ?hr ?_; (case hd => rfl); (case hg => rfl); (case hr => first | (go_simp; done) | (go_simp; rfl))
              intro gb1097 hg w12 hbox hb
              have n0_ := Aside0.mk (blk_below (g := gb1089) (o := .cells #[.int .i64 a0_0, .int .i64 a0_1] 147 (0, 0)) (by (with_reducible repeat (first | refine blk_drewN ?_ _ | refine blk_drew ?_ | refine blk_alloc ?_ _)); exact BK1089.out) hb)
              have n1_ := Aside0.mk (blk_below (g := gb1090) (o := .cells #[.int .i64 a1_0, .int .i64 a1_1] 147 (0, 0)) (by (with_reducible repeat (first | refine blk_drewN ?_ _ | refine blk_drew ?_ | refine blk_alloc ?_ _)); exact BK1090.out) hb)
              have n2_ := Aside0.mk (blk_below (g := gb1091) (o := .cells #[.int .i64 0, .int .i64 0] 147 (0, 0)) (by (with_reducible repeat (first | refine blk_drewN ?_ _ | refine blk_drew ?_ | refine blk_alloc ?_ _)); exact BK1091.out) hb)
              have n3_ := Aside0.mk (below_step (by repeat (first | (with_reducible first | exact HB.out | apply below_alloc | apply pw_below_drewN | apply below_drew1 | refine below_set ?_ GE1089.out | refine below_set ?_ GE1090.out | refine below_set ?_ GE1091.out) | exact HB.out)) hb)
              have n4_ := Aside0.mk (hbox)
              have n5_ := Aside0.mk ((by rw [hg]; exact (below_size (by repeat (first | (with_reducible first | exact HB.out | apply below_alloc | apply pw_below_drewN | apply below_drew1 | refine below_set ?_ GE1089.out | refine below_set ?_ GE1090.out | refine below_set ?_ GE1091.out) | exact HB.out))) : w.heap.size ≤ gb1097))
              have n6_ := Aside0.mk ((by rw [hg]; exact (below_size (by repeat (first | (with_reducible first | exact HB.out | apply below_alloc | apply pw_below_drewN | apply below_drew1 | refine below_set ?_ GE1089.out | refine below_set ?_ GE1090.out | refine below_set ?_ GE1091.out) | exact HB.out))) : w.heap.size ≤ gb1097))
              have n7_ := Aside0.mk ((by rw [hg]; exact Nat.ne_of_lt (blk_lt (g := gb1089) (o := .cells #[.int .i64 a0_0, .int .i64 a0_1] 147 (0, 0)) (by (with_reducible repeat (first | refine blk_drewN ?_ _ | refine blk_drew ?_ | refine blk_alloc ?_ _)); exact BK1089.out)) : gb1089 ≠ gb1097))
              have n8_ := Aside0.mk ((by rw [hg]; exact Nat.ne_of_gt (blk_lt (g := gb1089) (o := .cells #[.int .i64 a0_0, .int .i64 a0_1] 147 (0, 0)) (by (with_reducible repeat (first | refine blk_drewN ?_ _ | refine blk_drew ?_ | refine blk_alloc ?_ _)); exact BK1089.out)) : gb1097 ≠ gb1089))
              have n9_ := Aside0.mk ((by rw [hg]; exact Nat.ne_of_lt (blk_lt (g := gb1090) (o := .cells #[.int .i64 a1_0, .int .i64 a1_1] 147 (0, 0)) (by (with_reducible repeat (first | refine blk_drewN ?_ _ | refine blk_drew ?_ | refine blk_alloc ?_ _)); exact BK1090.out)) : gb1090 ≠ gb1097))
              have n10_ := Aside0.mk ((by rw [hg]; exact Nat.ne_of_gt (blk_lt (g := gb1090) (o := .cells #[.int .i64 a1_0, .int .i64 a1_1] 147 (0, 0)) (by (with_reducible repeat (first | refine blk_drewN ?_ _ | refine blk_drew ?_ | refine blk_alloc ?_ _)); exact BK1090.out)) : gb1097 ≠ gb1090))
              have n11_ := Aside0.mk ((by rw [hg]; exact Nat.ne_of_lt (blk_lt (g := gb1091) (o := .cells #[.int .i64 0, .int .i64 0] 147 (0, 0)) (by (with_reducible repeat (first | refine blk_drewN ?_ _ | refine blk_drew ?_ | refine blk_alloc ?_ _)); exact BK1091.out)) : gb1091 ≠ gb1097))
              have n12_ := Aside0.mk ((by rw [hg]; exact Nat.ne_of_gt (blk_lt (g := gb1091) (o := .cells #[.int .i64 0, .int .i64 0] 147 (0, 0)) (by (with_reducible repeat (first | refine blk_drewN ?_ _ | refine blk_drew ?_ | refine blk_alloc ?_ _)); exact BK1091.out)) : gb1097 ≠ gb1091))
              clear BK1089
              clear BK1090
              clear BK1091
              clear HB
              have BK1089 := n0_
              have BK1090 := n1_
              have BK1091 := n2_
              have HB := n3_
              have BK1097 := n4_
              have GW1097 := n5_
              have GE1097 := n6_
              have NB1089_1097 := n7_
              have NB1097_1089 := n8_
              have NB1090_1097 := n9_
              have NB1097_1090 := n10_
              have NB1091_1097 := n11_
              have NB1097_1091 := n12_
              clear n0_ n1_ n2_ n3_ n4_ n5_ n6_ n7_ n8_ n9_ n10_ n11_ n12_
              clear hb hbox hg
              refine hK.out _ _ ⟨(blk_cell BK1089.out 0).trans rfl, (blk_cell BK1089.out 1).trans rfl, (blk_cell BK1090.out 0).trans rfl, (blk_cell BK1090.out 1).trans rfl⟩ (fun hHeld => ?_)
              clear hK K
              refine norm_ (a' := ?_) ?_ ?_
              rotate_left
              · show Act.put _ (some 6) _ = _
                simp only [Act.put, List.setIfInBounds_toArray, List.set_cons_zero, List.set_cons_succ, i64_w, i32_w]
                rfl
              exact norm_ (by first | (simp only [putAll, Act.put, List.setIfInBounds_toArray, List.set_cons_zero, List.set_cons_succ]; done) | (simp only [putAll, Act.put, List.setIfInBounds_toArray, List.set_cons_zero, List.set_cons_succ]; rfl)) (hJ4_9_11 (gb1097) _ ⟨hHeld, (by (with_reducible repeat (first | refine blk_drewN ?_ _ | refine blk_drew ?_ | refine blk_alloc ?_ _)); exact BK1089.out), (by (with_reducible repeat (first | refine blk_drewN ?_ _ | refine blk_drew ?_ | refine blk_alloc ?_ _)); exact BK1090.out), (by (with_reducible repeat (first | refine blk_drewN ?_ _ | refine blk_drew ?_ | refine blk_alloc ?_ _)); exact BK1091.out), (by (with_reducible repeat (first | refine blk_drewN ?_ _ | refine blk_drew ?_ | refine blk_alloc ?_ _)); exact BK1097.out), GW1097.out, GE1097.out, NB1089_1097.out, NB1097_1089.out, NB1090_1097.out, NB1097_1090.out, NB1091_1097.out, NB1097_1091.out, (by repeat (first | (with_reducible first | exact HB.out | apply below_alloc | apply pw_below_drewN | apply below_drew1 | refine below_set ?_ GE1089.out | refine below_set ?_ GE1090.out | refine below_set ?_ GE1091.out | refine below_set ?_ GE1097.out) | exact HB.out))⟩)
        · skip
          rintro ⟨gb1096, gb1097⟩ w12 ⟨hS_, h0_, h1_, h2_, h3_, h4_, h5_, h6_, h7_, h8_, h9_, h10_, h11_, h12_, h13_, h14_, h15_, h16_, h17_, h18_, h19_, h20_, h21_, h22_, h23_⟩
          have n0_ : Aside0 (w12.heap[gb1089]? = some (.cells #[.int .i64 a0_0, .int .i64 a0_1] 147 (0, 0))) := ⟨h0_⟩
          have n1_ : Aside0 (w12.heap[gb1090]? = some (.cells #[.int .i64 a1_0, .int .i64 a1_1] 147 (0, 0))) := ⟨h1_⟩
          have n2_ : Aside0 (w12.heap[gb1091]? = some (.cells #[.int .i64 0, .int .i64 0] 147 (0, 0))) := ⟨h2_⟩
          have n3_ : Aside0 (w12.heap[gb1096]? = some (.cells #[.int .i64 0, .int .i64 0] 147 (0, 0))) := ⟨h3_⟩
          have n4_ : Aside0 (w12.heap[gb1097]? = some (.cells #[.int .i64 0, .int .i64 0] 147 (0, 0))) := ⟨h4_⟩
          have n5_ : Aside0 (w.heap.size ≤ gb1096) := ⟨h5_⟩
          have n6_ : Aside0 (w.heap.size ≤ gb1096) := ⟨h6_⟩
          have n7_ : Aside0 (gb1089 ≠ gb1096) := ⟨h7_⟩
          have n8_ : Aside0 (gb1096 ≠ gb1089) := ⟨h8_⟩
          have n9_ : Aside0 (gb1090 ≠ gb1096) := ⟨h9_⟩
          have n10_ : Aside0 (gb1096 ≠ gb1090) := ⟨h10_⟩
          have n11_ : Aside0 (gb1091 ≠ gb1096) := ⟨h11_⟩
          have n12_ : Aside0 (gb1096 ≠ gb1091) := ⟨h12_⟩
          have n13_ : Aside0 (gb1097 ≠ gb1096) := ⟨h13_⟩
          have n14_ : Aside0 (gb1096 ≠ gb1097) := ⟨h14_⟩
          have n15_ : Aside0 (w.heap.size ≤ gb1097) := ⟨h15_⟩
          have n16_ : Aside0 (w.heap.size ≤ gb1097) := ⟨h16_⟩
          have n17_ : Aside0 (gb1089 ≠ gb1097) := ⟨h17_⟩
          have n18_ : Aside0 (gb1097 ≠ gb1089) := ⟨h18_⟩
          have n19_ : Aside0 (gb1090 ≠ gb1097) := ⟨h19_⟩
          have n20_ : Aside0 (gb1097 ≠ gb1090) := ⟨h20_⟩
          have n21_ : Aside0 (gb1091 ≠ gb1097) := ⟨h21_⟩
          have n22_ : Aside0 (gb1097 ≠ gb1091) := ⟨h22_⟩
          have n23_ : Aside0 (Below w.heap.size w w12) := ⟨h23_⟩
          clear BK1089
          clear BK1090
          clear BK1091
          clear HB
          clear h0_ h1_ h2_ h3_ h4_ h5_ h6_ h7_ h8_ h9_ h10_ h11_ h12_ h13_ h14_ h15_ h16_ h17_ h18_ h19_ h20_ h21_ h22_ h23_
          have BK1089 := n0_
          have BK1090 := n1_
          have BK1091 := n2_
          have BK1096 := n3_
          have BK1097 := n4_
          have GW1096 := n5_
          have GE1096 := n6_
          have NB1089_1096 := n7_
          have NB1096_1089 := n8_
          have NB1090_1096 := n9_
          have NB1096_1090 := n10_
          have NB1091_1096 := n11_
          have NB1096_1091 := n12_
          have NB1097_1096 := n13_
          have NB1096_1097 := n14_
          have GW1097 := n15_
          have GE1097 := n16_
          have NB1089_1097 := n17_
          have NB1097_1089 := n18_
          have NB1090_1097 := n19_
          have NB1097_1090 := n20_
          have NB1091_1097 := n21_
          have NB1097_1091 := n22_
          have HB := n23_
          clear n0_ n1_ n2_ n3_ n4_ n5_ n6_ n7_ n8_ n9_ n10_ n11_ n12_ n13_ n14_ n15_ n16_ n17_ n18_ n19_ n20_ n21_ n22_ n23_
          have hHeld : w12.cell? ⟨gb1089, 0, none⟩ = some (.int .i64 a0_0) ∧ w12.cell? ⟨gb1089, 1, none⟩ = some (.int .i64 a0_1) ∧ w12.cell? ⟨gb1090, 0, none⟩ = some (.int .i64 a1_0) ∧ w12.cell? ⟨gb1090, 1, none⟩ = some (.int .i64 a1_1) := hS_
          refine norm_ (a' := ?_) ?_ ?_
          rotate_left
          · simp only [putAll, Act.put, List.setIfInBounds_toArray, List.set_cons_zero, List.set_cons_succ]
            rfl
          refine one_ (i := 9) (N := some 16) #[true, true, true, true, true, true, true, true, true, true, true, true, false, false] rfl rfl (one_of HT_.out (by kernel_rfl)) (by decide) (fun K hK => ?_)
          refine goes_ Try.func220 (by kernel_rfl) rfl #[.int .i64 a1_0, .int .i64 a0_1] (by rfl) rfl rfl (by (try simp only [List.map_toArray, List.map_cons, List.map_nil]); first | done | rfl | (simp only [List.length_drop, List.length_take]; rfl)) ?_
          with_reducible refine (impl_fractionOf.calls k a1_0 a0_1 t1094 t1095 _ A4.out).mono ?_
          rintro e w13 ⟨rfl, hb⟩
          refine ⟨_, rfl, ?_⟩
          have n0_ := Aside0.mk (blk_below (g := gb1089) (o := .cells #[.int .i64 a0_0, .int .i64 a0_1] 147 (0, 0)) (by (with_reducible repeat (first | refine blk_drewN ?_ _ | refine blk_drew ?_ | refine blk_alloc ?_ _)); exact BK1089.out) hb)
          have n1_ := Aside0.mk (blk_below (g := gb1090) (o := .cells #[.int .i64 a1_0, .int .i64 a1_1] 147 (0, 0)) (by (with_reducible repeat (first | refine blk_drewN ?_ _ | refine blk_drew ?_ | refine blk_alloc ?_ _)); exact BK1090.out) hb)
          have n2_ := Aside0.mk (blk_below (g := gb1091) (o := .cells #[.int .i64 0, .int .i64 0] 147 (0, 0)) (by (with_reducible repeat (first | refine blk_drewN ?_ _ | refine blk_drew ?_ | refine blk_alloc ?_ _)); exact BK1091.out) hb)
          have n3_ := Aside0.mk (blk_below (g := gb1096) (o := .cells #[.int .i64 0, .int .i64 0] 147 (0, 0)) (by (with_reducible repeat (first | refine blk_drewN ?_ _ | refine blk_drew ?_ | refine blk_alloc ?_ _)); exact BK1096.out) hb)
          have n4_ := Aside0.mk (blk_below (g := gb1097) (o := .cells #[.int .i64 0, .int .i64 0] 147 (0, 0)) (by (with_reducible repeat (first | refine blk_drewN ?_ _ | refine blk_drew ?_ | refine blk_alloc ?_ _)); exact BK1097.out) hb)
          have n5_ := Aside0.mk (below_step (by repeat (first | (with_reducible first | exact HB.out | apply below_alloc | apply pw_below_drewN | apply below_drew1 | refine below_set ?_ GE1089.out | refine below_set ?_ GE1090.out | refine below_set ?_ GE1091.out | refine below_set ?_ GE1096.out | refine below_set ?_ GE1097.out) | exact HB.out)) hb)
          clear BK1089
          clear BK1090
          clear BK1091
          clear BK1096
          clear BK1097
          clear HB
          have BK1089 := n0_
          have BK1090 := n1_
          have BK1091 := n2_
          have BK1096 := n3_
          have BK1097 := n4_
          have HB := n5_
          clear n0_ n1_ n2_ n3_ n4_ n5_
          (try clear hb)
          (try clear hb2)
          (try clear hk)
          (try clear hi)
          refine hK.out _ _ ⟨(blk_cell BK1089.out 0).trans rfl, (blk_cell BK1089.out 1).trans rfl, (blk_cell BK1090.out 0).trans rfl, (blk_cell BK1090.out 1).trans rfl⟩ (fun hHeld => ?_)
          clear hK K
          refine norm_ (a' := ?_) ?_ ?_
          rotate_left
          · show Act.put _ (some 16) _ = _
            simp only [Act.put, List.setIfInBounds_toArray, List.set_cons_zero, List.set_cons_succ, i64_w, i32_w]
            rfl
          exact norm_ (by first | (simp only [putAll, Act.put, List.setIfInBounds_toArray, List.set_cons_zero, List.set_cons_succ]; done) | (simp only [putAll, Act.put, List.setIfInBounds_toArray, List.set_cons_zero, List.set_cons_succ]; rfl)) (hJ4_9_10_11 (gb1096, gb1097) _ ⟨hHeld, (by (with_reducible repeat (first | refine blk_drewN ?_ _ | refine blk_drew ?_ | refine blk_alloc ?_ _)); exact BK1089.out), (by (with_reducible repeat (first | refine blk_drewN ?_ _ | refine blk_drew ?_ | refine blk_alloc ?_ _)); exact BK1090.out), (by (with_reducible repeat (first | refine blk_drewN ?_ _ | refine blk_drew ?_ | refine blk_alloc ?_ _)); exact BK1091.out), (by (with_reducible repeat (first | refine blk_drewN ?_ _ | refine blk_drew ?_ | refine blk_alloc ?_ _)); exact BK1096.out), (by (with_reducible repeat (first | refine blk_drewN ?_ _ | refine blk_drew ?_ | refine blk_alloc ?_ _)); exact BK1097.out), GW1096.out, GE1096.out, NB1089_1096.out, NB1096_1089.out, NB1090_1096.out, NB1096_1090.out, NB1091_1096.out, NB1096_1091.out, NB1097_1096.out, NB1096_1097.out, GW1097.out, GE1097.out, NB1089_1097.out, NB1097_1089.out, NB1090_1097.out, NB1097_1090.out, NB1091_1097.out, NB1097_1091.out, (by repeat (first | (with_reducible first | exact HB.out | apply below_alloc | apply pw_below_drewN | apply below_drew1 | refine below_set ?_ GE1089.out | refine below_set ?_ GE1090.out | refine below_set ?_ GE1091.out | refine below_set ?_ GE1096.out | refine below_set ?_ GE1097.out) | exact HB.out))⟩)
      · skip
        rintro gb1097 w12 ⟨hS_, h0_, h1_, h2_, h3_, h4_, h5_, h6_, h7_, h8_, h9_, h10_, h11_, h12_⟩
        have n0_ : Aside0 (w12.heap[gb1089]? = some (.cells #[.int .i64 a0_0, .int .i64 a0_1] 147 (0, 0))) := ⟨h0_⟩
        have n1_ : Aside0 (w12.heap[gb1090]? = some (.cells #[.int .i64 a1_0, .int .i64 a1_1] 147 (0, 0))) := ⟨h1_⟩
        have n2_ : Aside0 (w12.heap[gb1091]? = some (.cells #[.int .i64 0, .int .i64 0] 147 (0, 0))) := ⟨h2_⟩
        have n3_ : Aside0 (w12.heap[gb1097]? = some (.cells #[.int .i64 0, .int .i64 0] 147 (0, 0))) := ⟨h3_⟩
        have n4_ : Aside0 (w.heap.size ≤ gb1097) := ⟨h4_⟩
        have n5_ : Aside0 (w.heap.size ≤ gb1097) := ⟨h5_⟩
        have n6_ : Aside0 (gb1089 ≠ gb1097) := ⟨h6_⟩
        have n7_ : Aside0 (gb1097 ≠ gb1089) := ⟨h7_⟩
        have n8_ : Aside0 (gb1090 ≠ gb1097) := ⟨h8_⟩
        have n9_ : Aside0 (gb1097 ≠ gb1090) := ⟨h9_⟩
        have n10_ : Aside0 (gb1091 ≠ gb1097) := ⟨h10_⟩
        have n11_ : Aside0 (gb1097 ≠ gb1091) := ⟨h11_⟩
        have n12_ : Aside0 (Below w.heap.size w w12) := ⟨h12_⟩
        clear BK1089
        clear BK1090
        clear BK1091
        clear HB
        clear h0_ h1_ h2_ h3_ h4_ h5_ h6_ h7_ h8_ h9_ h10_ h11_ h12_
        have BK1089 := n0_
        have BK1090 := n1_
        have BK1091 := n2_
        have BK1097 := n3_
        have GW1097 := n4_
        have GE1097 := n5_
        have NB1089_1097 := n6_
        have NB1097_1089 := n7_
        have NB1090_1097 := n8_
        have NB1097_1090 := n9_
        have NB1091_1097 := n10_
        have NB1097_1091 := n11_
        have HB := n12_
        clear n0_ n1_ n2_ n3_ n4_ n5_ n6_ n7_ n8_ n9_ n10_ n11_ n12_
        have hHeld : w12.cell? ⟨gb1089, 0, none⟩ = some (.int .i64 a0_0) ∧ w12.cell? ⟨gb1089, 1, none⟩ = some (.int .i64 a0_1) ∧ w12.cell? ⟨gb1090, 0, none⟩ = some (.int .i64 a1_0) ∧ w12.cell? ⟨gb1090, 1, none⟩ = some (.int .i64 a1_1) := hS_
        refine norm_ (a' := ?_) ?_ ?_
        rotate_left
        · simp only [putAll, Act.put, List.setIfInBounds_toArray, List.set_cons_zero, List.set_cons_succ]
          rfl
        refine one_ (i := 10) (N := some 5) #[true, true, true, true, true, true, true, true, true, true, true, true, false, false] rfl rfl (one_of HT_.out (by kernel_rfl)) (by decide) (fun K hK => ?_)
        refine box_step ?hg (N := 5) ?hd (cs := #[.int .i64 0, .int .i64 0]) (t := 147) ?hr ?_; (case hd => rfl); (case hg => rfl); (case hr => first | (go_simp; done) | (go_simp; rfl))
        intro gb1096 hg w13 hbox hb
        have n0_ := Aside0.mk (blk_below (g := gb1089) (o := .cells #[.int .i64 a0_0, .int .i64 a0_1] 147 (0, 0)) (by (with_reducible repeat (first | refine blk_drewN ?_ _ | refine blk_drew ?_ | refine blk_alloc ?_ _)); exact BK1089.out) hb)
        have n1_ := Aside0.mk (blk_below (g := gb1090) (o := .cells #[.int .i64 a1_0, .int .i64 a1_1] 147 (0, 0)) (by (with_reducible repeat (first | refine blk_drewN ?_ _ | refine blk_drew ?_ | refine blk_alloc ?_ _)); exact BK1090.out) hb)
        have n2_ := Aside0.mk (blk_below (g := gb1091) (o := .cells #[.int .i64 0, .int .i64 0] 147 (0, 0)) (by (with_reducible repeat (first | refine blk_drewN ?_ _ | refine blk_drew ?_ | refine blk_alloc ?_ _)); exact BK1091.out) hb)
        have n3_ := Aside0.mk (blk_below (g := gb1097) (o := .cells #[.int .i64 0, .int .i64 0] 147 (0, 0)) (by (with_reducible repeat (first | refine blk_drewN ?_ _ | refine blk_drew ?_ | refine blk_alloc ?_ _)); exact BK1097.out) hb)
        have n4_ := Aside0.mk (below_step (by repeat (first | (with_reducible first | exact HB.out | apply below_alloc | apply pw_below_drewN | apply below_drew1 | refine below_set ?_ GE1089.out | refine below_set ?_ GE1090.out | refine below_set ?_ GE1091.out | refine below_set ?_ GE1097.out) | exact HB.out)) hb)
        have n5_ := Aside0.mk (hbox)
        have n6_ := Aside0.mk ((by rw [hg]; exact (below_size (by repeat (first | (with_reducible first | exact HB.out | apply below_alloc | apply pw_below_drewN | apply below_drew1 | refine below_set ?_ GE1089.out | refine below_set ?_ GE1090.out | refine below_set ?_ GE1091.out | refine below_set ?_ GE1097.out) | exact HB.out))) : w.heap.size ≤ gb1096))
        have n7_ := Aside0.mk ((by rw [hg]; exact (below_size (by repeat (first | (with_reducible first | exact HB.out | apply below_alloc | apply pw_below_drewN | apply below_drew1 | refine below_set ?_ GE1089.out | refine below_set ?_ GE1090.out | refine below_set ?_ GE1091.out | refine below_set ?_ GE1097.out) | exact HB.out))) : w.heap.size ≤ gb1096))
        have n8_ := Aside0.mk ((by rw [hg]; exact Nat.ne_of_lt (blk_lt (g := gb1089) (o := .cells #[.int .i64 a0_0, .int .i64 a0_1] 147 (0, 0)) (by (with_reducible repeat (first | refine blk_drewN ?_ _ | refine blk_drew ?_ | refine blk_alloc ?_ _)); exact BK1089.out)) : gb1089 ≠ gb1096))
        have n9_ := Aside0.mk ((by rw [hg]; exact Nat.ne_of_gt (blk_lt (g := gb1089) (o := .cells #[.int .i64 a0_0, .int .i64 a0_1] 147 (0, 0)) (by (with_reducible repeat (first | refine blk_drewN ?_ _ | refine blk_drew ?_ | refine blk_alloc ?_ _)); exact BK1089.out)) : gb1096 ≠ gb1089))
        have n10_ := Aside0.mk ((by rw [hg]; exact Nat.ne_of_lt (blk_lt (g := gb1090) (o := .cells #[.int .i64 a1_0, .int .i64 a1_1] 147 (0, 0)) (by (with_reducible repeat (first | refine blk_drewN ?_ _ | refine blk_drew ?_ | refine blk_alloc ?_ _)); exact BK1090.out)) : gb1090 ≠ gb1096))
        have n11_ := Aside0.mk ((by rw [hg]; exact Nat.ne_of_gt (blk_lt (g := gb1090) (o := .cells #[.int .i64 a1_0, .int .i64 a1_1] 147 (0, 0)) (by (with_reducible repeat (first | refine blk_drewN ?_ _ | refine blk_drew ?_ | refine blk_alloc ?_ _)); exact BK1090.out)) : gb1096 ≠ gb1090))
        have n12_ := Aside0.mk ((by rw [hg]; exact Nat.ne_of_lt (blk_lt (g := gb1091) (o := .cells #[.int .i64 0, .int .i64 0] 147 (0, 0)) (by (with_reducible repeat (first | refine blk_drewN ?_ _ | refine blk_drew ?_ | refine blk_alloc ?_ _)); exact BK1091.out)) : gb1091 ≠ gb1096))
        have n13_ := Aside0.mk ((by rw [hg]; exact Nat.ne_of_gt (blk_lt (g := gb1091) (o := .cells #[.int .i64 0, .int .i64 0] 147 (0, 0)) (by (with_reducible repeat (first | refine blk_drewN ?_ _ | refine blk_drew ?_ | refine blk_alloc ?_ _)); exact BK1091.out)) : gb1096 ≠ gb1091))
        have n14_ := Aside0.mk ((by rw [hg]; exact Nat.ne_of_lt (blk_lt (g := gb1097) (o := .cells #[.int .i64 0, .int .i64 0] 147 (0, 0)) (by (with_reducible repeat (first | refine blk_drewN ?_ _ | refine blk_drew ?_ | refine blk_alloc ?_ _)); exact BK1097.out)) : gb1097 ≠ gb1096))
        have n15_ := Aside0.mk ((by rw [hg]; exact Nat.ne_of_gt (blk_lt (g := gb1097) (o := .cells #[.int .i64 0, .int .i64 0] 147 (0, 0)) (by (with_reducible repeat (first | refine blk_drewN ?_ _ | refine blk_drew ?_ | refine blk_alloc ?_ _)); exact BK1097.out)) : gb1096 ≠ gb1097))
        clear BK1089
        clear BK1090
        clear BK1091
        clear BK1097
        clear HB
        have BK1089 := n0_
        have BK1090 := n1_
        have BK1091 := n2_
        have BK1097 := n3_
        have HB := n4_
        have BK1096 := n5_
        have GW1096 := n6_
        have GE1096 := n7_
        have NB1089_1096 := n8_
        have NB1096_1089 := n9_
        have NB1090_1096 := n10_
        have NB1096_1090 := n11_
        have NB1091_1096 := n12_
        have NB1096_1091 := n13_
        have NB1097_1096 := n14_
        have NB1096_1097 := n15_
        clear n0_ n1_ n2_ n3_ n4_ n5_ n6_ n7_ n8_ n9_ n10_ n11_ n12_ n13_ n14_ n15_
        clear hb hbox hg
        refine hK.out _ _ ⟨(blk_cell BK1089.out 0).trans rfl, (blk_cell BK1089.out 1).trans rfl, (blk_cell BK1090.out 0).trans rfl, (blk_cell BK1090.out 1).trans rfl⟩ (fun hHeld => ?_)
        clear hK K
        refine norm_ (a' := ?_) ?_ ?_
        rotate_left
        · show Act.put _ (some 5) _ = _
          simp only [Act.put, List.setIfInBounds_toArray, List.set_cons_zero, List.set_cons_succ, i64_w, i32_w]
          rfl
        exact norm_ (by first | (simp only [putAll, Act.put, List.setIfInBounds_toArray, List.set_cons_zero, List.set_cons_succ]; done) | (simp only [putAll, Act.put, List.setIfInBounds_toArray, List.set_cons_zero, List.set_cons_succ]; rfl)) (hJ4_9_10_11 (gb1096, gb1097) _ ⟨hHeld, (by (with_reducible repeat (first | refine blk_drewN ?_ _ | refine blk_drew ?_ | refine blk_alloc ?_ _)); exact BK1089.out), (by (with_reducible repeat (first | refine blk_drewN ?_ _ | refine blk_drew ?_ | refine blk_alloc ?_ _)); exact BK1090.out), (by (with_reducible repeat (first | refine blk_drewN ?_ _ | refine blk_drew ?_ | refine blk_alloc ?_ _)); exact BK1091.out), (by (with_reducible repeat (first | refine blk_drewN ?_ _ | refine blk_drew ?_ | refine blk_alloc ?_ _)); exact BK1096.out), (by (with_reducible repeat (first | refine blk_drewN ?_ _ | refine blk_drew ?_ | refine blk_alloc ?_ _)); exact BK1097.out), GW1096.out, GE1096.out, NB1089_1096.out, NB1096_1089.out, NB1090_1096.out, NB1096_1090.out, NB1091_1096.out, NB1096_1091.out, NB1097_1096.out, NB1096_1097.out, GW1097.out, GE1097.out, NB1089_1097.out, NB1097_1089.out, NB1090_1097.out, NB1097_1090.out, NB1091_1097.out, NB1097_1091.out, (by repeat (first | (with_reducible first | exact HB.out | apply below_alloc | apply pw_below_drewN | apply below_drew1 | refine below_set ?_ GE1089.out | refine below_set ?_ GE1090.out | refine below_set ?_ GE1091.out | refine below_set ?_ GE1097.out | refine below_set ?_ GE1096.out) | exact HB.out))⟩)
    · skip
      rintro gb1096 w12 ⟨hS_, h0_, h1_, h2_, h3_, h4_, h5_, h6_, h7_, h8_, h9_, h10_, h11_, h12_⟩
      have n0_ : Aside0 (w12.heap[gb1089]? = some (.cells #[.int .i64 a0_0, .int .i64 a0_1] 147 (0, 0))) := ⟨h0_⟩
      have n1_ : Aside0 (w12.heap[gb1090]? = some (.cells #[.int .i64 a1_0, .int .i64 a1_1] 147 (0, 0))) := ⟨h1_⟩
      have n2_ : Aside0 (w12.heap[gb1091]? = some (.cells #[.int .i64 0, .int .i64 0] 147 (0, 0))) := ⟨h2_⟩
      have n3_ : Aside0 (w12.heap[gb1096]? = some (.cells #[.int .i64 0, .int .i64 0] 147 (0, 0))) := ⟨h3_⟩
      have n4_ : Aside0 (w.heap.size ≤ gb1096) := ⟨h4_⟩
      have n5_ : Aside0 (w.heap.size ≤ gb1096) := ⟨h5_⟩
      have n6_ : Aside0 (gb1089 ≠ gb1096) := ⟨h6_⟩
      have n7_ : Aside0 (gb1096 ≠ gb1089) := ⟨h7_⟩
      have n8_ : Aside0 (gb1090 ≠ gb1096) := ⟨h8_⟩
      have n9_ : Aside0 (gb1096 ≠ gb1090) := ⟨h9_⟩
      have n10_ : Aside0 (gb1091 ≠ gb1096) := ⟨h10_⟩
      have n11_ : Aside0 (gb1096 ≠ gb1091) := ⟨h11_⟩
      have n12_ : Aside0 (Below w.heap.size w w12) := ⟨h12_⟩
      clear BK1089
      clear BK1090
      clear BK1091
      clear HB
      clear h0_ h1_ h2_ h3_ h4_ h5_ h6_ h7_ h8_ h9_ h10_ h11_ h12_
      have BK1089 := n0_
      have BK1090 := n1_
      have BK1091 := n2_
      have BK1096 := n3_
      have GW1096 := n4_
      have GE1096 := n5_
      have NB1089_1096 := n6_
      have NB1096_1089 := n7_
      have NB1090_1096 := n8_
      have NB1096_1090 := n9_
      have NB1091_1096 := n10_
      have NB1096_1091 := n11_
      have HB := n12_
      clear n0_ n1_ n2_ n3_ n4_ n5_ n6_ n7_ n8_ n9_ n10_ n11_ n12_
      have hHeld : w12.cell? ⟨gb1089, 0, none⟩ = some (.int .i64 a0_0) ∧ w12.cell? ⟨gb1089, 1, none⟩ = some (.int .i64 a0_1) ∧ w12.cell? ⟨gb1090, 0, none⟩ = some (.int .i64 a1_0) ∧ w12.cell? ⟨gb1090, 1, none⟩ = some (.int .i64 a1_1) := hS_
      refine norm_ (a' := ?_) ?_ ?_
      rotate_left
      · simp only [putAll, Act.put, List.setIfInBounds_toArray, List.set_cons_zero, List.set_cons_succ]
        rfl
      refine one_ (i := 11) (N := some 6) #[true, true, true, true, true, true, true, true, true, true, true, true, false, false] rfl rfl (one_of HT_.out (by kernel_rfl)) (by decide) (fun K hK => ?_)
      refine box_step ?hg (N := 6) ?hd (cs := #[.int .i64 0, .int .i64 0]) (t := 147) ?hr ?_; (case hd => rfl); (case hg => rfl); (case hr => first | (go_simp; done) | (go_simp; rfl))
      intro gb1097 hg w13 hbox hb
      have n0_ := Aside0.mk (blk_below (g := gb1089) (o := .cells #[.int .i64 a0_0, .int .i64 a0_1] 147 (0, 0)) (by (with_reducible repeat (first | refine blk_drewN ?_ _ | refine blk_drew ?_ | refine blk_alloc ?_ _)); exact BK1089.out) hb)
      have n1_ := Aside0.mk (blk_below (g := gb1090) (o := .cells #[.int .i64 a1_0, .int .i64 a1_1] 147 (0, 0)) (by (with_reducible repeat (first | refine blk_drewN ?_ _ | refine blk_drew ?_ | refine blk_alloc ?_ _)); exact BK1090.out) hb)
      have n2_ := Aside0.mk (blk_below (g := gb1091) (o := .cells #[.int .i64 0, .int .i64 0] 147 (0, 0)) (by (with_reducible repeat (first | refine blk_drewN ?_ _ | refine blk_drew ?_ | refine blk_alloc ?_ _)); exact BK1091.out) hb)
      have n3_ := Aside0.mk (blk_below (g := gb1096) (o := .cells #[.int .i64 0, .int .i64 0] 147 (0, 0)) (by (with_reducible repeat (first | refine blk_drewN ?_ _ | refine blk_drew ?_ | refine blk_alloc ?_ _)); exact BK1096.out) hb)
      have n4_ := Aside0.mk (below_step (by repeat (first | (with_reducible first | exact HB.out | apply below_alloc | apply pw_below_drewN | apply below_drew1 | refine below_set ?_ GE1089.out | refine below_set ?_ GE1090.out | refine below_set ?_ GE1091.out | refine below_set ?_ GE1096.out) | exact HB.out)) hb)
      have n5_ := Aside0.mk (hbox)
      have n6_ := Aside0.mk ((by rw [hg]; exact (below_size (by repeat (first | (with_reducible first | exact HB.out | apply below_alloc | apply pw_below_drewN | apply below_drew1 | refine below_set ?_ GE1089.out | refine below_set ?_ GE1090.out | refine below_set ?_ GE1091.out | refine below_set ?_ GE1096.out) | exact HB.out))) : w.heap.size ≤ gb1097))
      have n7_ := Aside0.mk ((by rw [hg]; exact (below_size (by repeat (first | (with_reducible first | exact HB.out | apply below_alloc | apply pw_below_drewN | apply below_drew1 | refine below_set ?_ GE1089.out | refine below_set ?_ GE1090.out | refine below_set ?_ GE1091.out | refine below_set ?_ GE1096.out) | exact HB.out))) : w.heap.size ≤ gb1097))
      have n8_ := Aside0.mk ((by rw [hg]; exact Nat.ne_of_lt (blk_lt (g := gb1089) (o := .cells #[.int .i64 a0_0, .int .i64 a0_1] 147 (0, 0)) (by (with_reducible repeat (first | refine blk_drewN ?_ _ | refine blk_drew ?_ | refine blk_alloc ?_ _)); exact BK1089.out)) : gb1089 ≠ gb1097))
      have n9_ := Aside0.mk ((by rw [hg]; exact Nat.ne_of_gt (blk_lt (g := gb1089) (o := .cells #[.int .i64 a0_0, .int .i64 a0_1] 147 (0, 0)) (by (with_reducible repeat (first | refine blk_drewN ?_ _ | refine blk_drew ?_ | refine blk_alloc ?_ _)); exact BK1089.out)) : gb1097 ≠ gb1089))
      have n10_ := Aside0.mk ((by rw [hg]; exact Nat.ne_of_lt (blk_lt (g := gb1090) (o := .cells #[.int .i64 a1_0, .int .i64 a1_1] 147 (0, 0)) (by (with_reducible repeat (first | refine blk_drewN ?_ _ | refine blk_drew ?_ | refine blk_alloc ?_ _)); exact BK1090.out)) : gb1090 ≠ gb1097))
      have n11_ := Aside0.mk ((by rw [hg]; exact Nat.ne_of_gt (blk_lt (g := gb1090) (o := .cells #[.int .i64 a1_0, .int .i64 a1_1] 147 (0, 0)) (by (with_reducible repeat (first | refine blk_drewN ?_ _ | refine blk_drew ?_ | refine blk_alloc ?_ _)); exact BK1090.out)) : gb1097 ≠ gb1090))
      have n12_ := Aside0.mk ((by rw [hg]; exact Nat.ne_of_lt (blk_lt (g := gb1091) (o := .cells #[.int .i64 0, .int .i64 0] 147 (0, 0)) (by (with_reducible repeat (first | refine blk_drewN ?_ _ | refine blk_drew ?_ | refine blk_alloc ?_ _)); exact BK1091.out)) : gb1091 ≠ gb1097))
      have n13_ := Aside0.mk ((by rw [hg]; exact Nat.ne_of_gt (blk_lt (g := gb1091) (o := .cells #[.int .i64 0, .int .i64 0] 147 (0, 0)) (by (with_reducible repeat (first | refine blk_drewN ?_ _ | refine blk_drew ?_ | refine blk_alloc ?_ _)); exact BK1091.out)) : gb1097 ≠ gb1091))
      have n14_ := Aside0.mk ((by rw [hg]; exact Nat.ne_of_lt (blk_lt (g := gb1096) (o := .cells #[.int .i64 0, .int .i64 0] 147 (0, 0)) (by (with_reducible repeat (first | refine blk_drewN ?_ _ | refine blk_drew ?_ | refine blk_alloc ?_ _)); exact BK1096.out)) : gb1096 ≠ gb1097))
      have n15_ := Aside0.mk ((by rw [hg]; exact Nat.ne_of_gt (blk_lt (g := gb1096) (o := .cells #[.int .i64 0, .int .i64 0] 147 (0, 0)) (by (with_reducible repeat (first | refine blk_drewN ?_ _ | refine blk_drew ?_ | refine blk_alloc ?_ _)); exact BK1096.out)) : gb1097 ≠ gb1096))
      clear BK1089
      clear BK1090
      clear BK1091
      clear BK1096
      clear HB
      have BK1089 := n0_
      have BK1090 := n1_
      have BK1091 := n2_
      have BK1096 := n3_
      have HB := n4_
      have BK1097 := n5_
      have GW1097 := n6_
      have GE1097 := n7_
      have NB1089_1097 := n8_
      have NB1097_1089 := n9_
      have NB1090_1097 := n10_
      have NB1097_1090 := n11_
      have NB1091_1097 := n12_
      have NB1097_1091 := n13_
      have NB1096_1097 := n14_
      have NB1097_1096 := n15_
      clear n0_ n1_ n2_ n3_ n4_ n5_ n6_ n7_ n8_ n9_ n10_ n11_ n12_ n13_ n14_ n15_
      clear hb hbox hg
      refine hK.out _ _ ⟨(blk_cell BK1089.out 0).trans rfl, (blk_cell BK1089.out 1).trans rfl, (blk_cell BK1090.out 0).trans rfl, (blk_cell BK1090.out 1).trans rfl⟩ (fun hHeld => ?_)
      clear hK K
      refine norm_ (a' := ?_) ?_ ?_
      rotate_left
      · show Act.put _ (some 6) _ = _
        simp only [Act.put, List.setIfInBounds_toArray, List.set_cons_zero, List.set_cons_succ, i64_w, i32_w]
        rfl
      exact norm_ (by first | (simp only [putAll, Act.put, List.setIfInBounds_toArray, List.set_cons_zero, List.set_cons_succ]; done) | (simp only [putAll, Act.put, List.setIfInBounds_toArray, List.set_cons_zero, List.set_cons_succ]; rfl)) (hJ4_9_10_11 (gb1096, gb1097) _ ⟨hHeld, (by (with_reducible repeat (first | refine blk_drewN ?_ _ | refine blk_drew ?_ | refine blk_alloc ?_ _)); exact BK1089.out), (by (with_reducible repeat (first | refine blk_drewN ?_ _ | refine blk_drew ?_ | refine blk_alloc ?_ _)); exact BK1090.out), (by (with_reducible repeat (first | refine blk_drewN ?_ _ | refine blk_drew ?_ | refine blk_alloc ?_ _)); exact BK1091.out), (by (with_reducible repeat (first | refine blk_drewN ?_ _ | refine blk_drew ?_ | refine blk_alloc ?_ _)); exact BK1096.out), (by (with_reducible repeat (first | refine blk_drewN ?_ _ | refine blk_drew ?_ | refine blk_alloc ?_ _)); exact BK1097.out), GW1096.out, GE1096.out, NB1089_1096.out, NB1096_1089.out, NB1090_1096.out, NB1096_1090.out, NB1091_1096.out, NB1096_1091.out, NB1097_1096.out, NB1096_1097.out, GW1097.out, GE1097.out, NB1089_1097.out, NB1097_1089.out, NB1090_1097.out, NB1097_1090.out, NB1091_1097.out, NB1097_1091.out, (by repeat (first | (with_reducible first | exact HB.out | apply below_alloc | apply pw_below_drewN | apply below_drew1 | refine below_set ?_ GE1089.out | refine below_set ?_ GE1090.out | refine below_set ?_ GE1091.out | refine below_set ?_ GE1096.out | refine below_set ?_ GE1097.out) | exact HB.out))⟩)
  rintro ⟨gb1096, gb1097⟩ w13 ⟨hS_, h0_, h1_, h2_, h3_, h4_, h5_, h6_, h7_, h8_, h9_, h10_, h11_, h12_, h13_, h14_, h15_, h16_, h17_, h18_, h19_, h20_, h21_, h22_, h23_⟩
  have n0_ : Aside0 (w13.heap[gb1089]? = some (.cells #[.int .i64 a0_0, .int .i64 a0_1] 147 (0, 0))) := ⟨h0_⟩
  have n1_ : Aside0 (w13.heap[gb1090]? = some (.cells #[.int .i64 a1_0, .int .i64 a1_1] 147 (0, 0))) := ⟨h1_⟩
  have n2_ : Aside0 (w13.heap[gb1091]? = some (.cells #[.int .i64 0, .int .i64 0] 147 (0, 0))) := ⟨h2_⟩
  have n3_ : Aside0 (w13.heap[gb1096]? = some (.cells #[.int .i64 0, .int .i64 0] 147 (0, 0))) := ⟨h3_⟩
  have n4_ : Aside0 (w13.heap[gb1097]? = some (.cells #[.int .i64 0, .int .i64 0] 147 (0, 0))) := ⟨h4_⟩
  have n5_ : Aside0 (w.heap.size ≤ gb1096) := ⟨h5_⟩
  have n6_ : Aside0 (w.heap.size ≤ gb1096) := ⟨h6_⟩
  have n7_ : Aside0 (gb1089 ≠ gb1096) := ⟨h7_⟩
  have n8_ : Aside0 (gb1096 ≠ gb1089) := ⟨h8_⟩
  have n9_ : Aside0 (gb1090 ≠ gb1096) := ⟨h9_⟩
  have n10_ : Aside0 (gb1096 ≠ gb1090) := ⟨h10_⟩
  have n11_ : Aside0 (gb1091 ≠ gb1096) := ⟨h11_⟩
  have n12_ : Aside0 (gb1096 ≠ gb1091) := ⟨h12_⟩
  have n13_ : Aside0 (gb1097 ≠ gb1096) := ⟨h13_⟩
  have n14_ : Aside0 (gb1096 ≠ gb1097) := ⟨h14_⟩
  have n15_ : Aside0 (w.heap.size ≤ gb1097) := ⟨h15_⟩
  have n16_ : Aside0 (w.heap.size ≤ gb1097) := ⟨h16_⟩
  have n17_ : Aside0 (gb1089 ≠ gb1097) := ⟨h17_⟩
  have n18_ : Aside0 (gb1097 ≠ gb1089) := ⟨h18_⟩
  have n19_ : Aside0 (gb1090 ≠ gb1097) := ⟨h19_⟩
  have n20_ : Aside0 (gb1097 ≠ gb1090) := ⟨h20_⟩
  have n21_ : Aside0 (gb1091 ≠ gb1097) := ⟨h21_⟩
  have n22_ : Aside0 (gb1097 ≠ gb1091) := ⟨h22_⟩
  have n23_ : Aside0 (Below w.heap.size w w13) := ⟨h23_⟩
  clear BK1089
  clear BK1090
  clear BK1091
  clear HB
  clear h0_ h1_ h2_ h3_ h4_ h5_ h6_ h7_ h8_ h9_ h10_ h11_ h12_ h13_ h14_ h15_ h16_ h17_ h18_ h19_ h20_ h21_ h22_ h23_
  have BK1089 := n0_
  have BK1090 := n1_
  have BK1091 := n2_
  have BK1096 := n3_
  have BK1097 := n4_
  have GW1096 := n5_
  have GE1096 := n6_
  have NB1089_1096 := n7_
  have NB1096_1089 := n8_
  have NB1090_1096 := n9_
  have NB1096_1090 := n10_
  have NB1091_1096 := n11_
  have NB1096_1091 := n12_
  have NB1097_1096 := n13_
  have NB1096_1097 := n14_
  have GW1097 := n15_
  have GE1097 := n16_
  have NB1089_1097 := n17_
  have NB1097_1089 := n18_
  have NB1090_1097 := n19_
  have NB1097_1090 := n20_
  have NB1091_1097 := n21_
  have NB1097_1091 := n22_
  have HB := n23_
  clear n0_ n1_ n2_ n3_ n4_ n5_ n6_ n7_ n8_ n9_ n10_ n11_ n12_ n13_ n14_ n15_ n16_ n17_ n18_ n19_ n20_ n21_ n22_ n23_
  have hHeld : w13.cell? ⟨gb1089, 0, none⟩ = some (.int .i64 a0_0) ∧ w13.cell? ⟨gb1089, 1, none⟩ = some (.int .i64 a0_1) ∧ w13.cell? ⟨gb1090, 0, none⟩ = some (.int .i64 a1_0) ∧ w13.cell? ⟨gb1090, 1, none⟩ = some (.int .i64 a1_1) := hS_
  refine norm_ (a' := ?_) ?_ ?_
  rotate_left
  · simp only [putAll, Act.put, List.setIfInBounds_toArray, List.set_cons_zero, List.set_cons_succ]
    rfl
  refine one_ (i := 12) (N := none) #[true, true, true, true, true, true, true, true, true, true, true, true, true, false] rfl rfl (one_of HT_.out (by kernel_rfl)) (by decide) (fun K hK => ?_)
  have hs14 : w13.cell? ⟨gb1096, 0, none⟩ = some (.int .i64 0) := (blk_cell BK1096.out 0).trans rfl
  have hfs14 := blk_frozen BK1096.out 0
  have hns14_0 := NB1089_1096.out
  have hns14_1 := NB1090_1096.out
  have hns14_2 := NB1091_1096.out
  have hns14_4 := NB1097_1096.out
  have hms14_0 := NB1096_1089.out
  have hms14_1 := NB1096_1090.out
  have hms14_2 := NB1096_1091.out
  have hms14_4 := NB1096_1097.out
  have hs15 : w13.cell? ⟨gb1096, 1, none⟩ = some (.int .i64 0) := (blk_cell BK1096.out 1).trans rfl
  have hfs15 := blk_frozen BK1096.out 1
  have hns15_0 := NB1089_1096.out
  have hns15_1 := NB1090_1096.out
  have hns15_2 := NB1091_1096.out
  have hns15_4 := NB1097_1096.out
  have hms15_0 := NB1096_1089.out
  have hms15_1 := NB1096_1090.out
  have hms15_2 := NB1096_1091.out
  have hms15_4 := NB1096_1097.out
  refine skip_ (w1 := ?_) (by rfl) rfl ?_ ?_
  rotate_left
  · go_simp
    rfl
  refine hK.out _ _ ⟨((cell_far (p := ⟨gb1096, _, none⟩) NB1089_1096.out _).trans (((cell_far (p := ⟨gb1096, _, none⟩) NB1089_1096.out _).trans (hHeld.1)))), ((cell_far (p := ⟨gb1096, _, none⟩) NB1089_1096.out _).trans (((cell_far (p := ⟨gb1096, _, none⟩) NB1089_1096.out _).trans (hHeld.2.1)))), ((cell_far (p := ⟨gb1096, _, none⟩) NB1090_1096.out _).trans (((cell_far (p := ⟨gb1096, _, none⟩) NB1090_1096.out _).trans (hHeld.2.2.1)))), ((cell_far (p := ⟨gb1096, _, none⟩) NB1090_1096.out _).trans (((cell_far (p := ⟨gb1096, _, none⟩) NB1090_1096.out _).trans (hHeld.2.2.2))))⟩ (fun hHeld => ?_)
  clear hK K
  refine one_ (i := 13) (N := none) #[true, true, true, true, true, true, true, true, true, true, true, true, true, true] rfl rfl (one_of HT_.out (by kernel_rfl)) (by decide) (fun K hK => ?_)
  have hs16 : w13.cell? ⟨gb1097, 0, none⟩ = some (.int .i64 0) := (blk_cell BK1097.out 0).trans rfl
  have hfs16 := blk_frozen BK1097.out 0
  have hns16_0 := NB1089_1097.out
  have hns16_1 := NB1090_1097.out
  have hns16_2 := NB1091_1097.out
  have hns16_3 := NB1096_1097.out
  have hms16_0 := NB1097_1089.out
  have hms16_1 := NB1097_1090.out
  have hms16_2 := NB1097_1091.out
  have hms16_3 := NB1097_1096.out
  have hs17 : w13.cell? ⟨gb1097, 1, none⟩ = some (.int .i64 0) := (blk_cell BK1097.out 1).trans rfl
  have hfs17 := blk_frozen BK1097.out 1
  have hns17_0 := NB1089_1097.out
  have hns17_1 := NB1090_1097.out
  have hns17_2 := NB1091_1097.out
  have hns17_3 := NB1096_1097.out
  have hms17_0 := NB1097_1089.out
  have hms17_1 := NB1097_1090.out
  have hms17_2 := NB1097_1091.out
  have hms17_3 := NB1097_1096.out
  refine skip_ (w1 := ?_) (by rfl) rfl ?_ ?_
  rotate_left
  · go_simp
    rfl
  refine hK.out _ _ ⟨((cell_far (p := ⟨gb1097, _, none⟩) NB1089_1097.out _).trans (((cell_far (p := ⟨gb1097, _, none⟩) NB1089_1097.out _).trans (hHeld.1)))), ((cell_far (p := ⟨gb1097, _, none⟩) NB1089_1097.out _).trans (((cell_far (p := ⟨gb1097, _, none⟩) NB1089_1097.out _).trans (hHeld.2.1)))), ((cell_far (p := ⟨gb1097, _, none⟩) NB1090_1097.out _).trans (((cell_far (p := ⟨gb1097, _, none⟩) NB1090_1097.out _).trans (hHeld.2.2.1)))), ((cell_far (p := ⟨gb1097, _, none⟩) NB1090_1097.out _).trans (((cell_far (p := ⟨gb1097, _, none⟩) NB1090_1097.out _).trans (hHeld.2.2.2))))⟩ (fun hHeld => ?_)
  clear hK K
  refine done_ (done_of HT_.out (by kernel_rfl)) ?_
  have hnb18 := NB1096_1089.out
  have hnc18 := NB1089_1096.out
  have hnb19 := NB1096_1090.out
  have hnc19 := NB1090_1096.out
  have hnb20 := NB1096_1091.out
  have hnc20 := NB1091_1096.out
  have hnb21 := NB1096_1097.out
  have hnc21 := NB1097_1096.out
  have hcz22_0 : w13.cell? ⟨gb1096, 0, none⟩ = some (.int .i64 0) := (blk_cell BK1096.out 0).trans rfl
  have hcz22_1 : w13.cell? ⟨gb1096, 1, none⟩ = some (.int .i64 0) := (blk_cell BK1096.out 1).trans rfl
  have hfz22_0 := blk_frozen BK1096.out 0
  have hfz22_1 := blk_frozen BK1096.out 1
  have hnb23 := NB1097_1089.out
  have hnc23 := NB1089_1097.out
  have hnb24 := NB1097_1090.out
  have hnc24 := NB1090_1097.out
  have hnb25 := NB1097_1091.out
  have hnc25 := NB1091_1097.out
  have hcz26_0 : w13.cell? ⟨gb1097, 0, none⟩ = some (.int .i64 0) := (blk_cell BK1097.out 0).trans rfl
  have hcz26_1 : w13.cell? ⟨gb1097, 1, none⟩ = some (.int .i64 0) := (blk_cell BK1097.out 1).trans rfl
  have hfz26_0 := blk_frozen BK1097.out 0
  have hfz26_1 := blk_frozen BK1097.out 1
  have hnb27 := NB1091_1089.out
  have hnc27 := NB1089_1091.out
  have hnb28 := NB1091_1090.out
  have hnc28 := NB1090_1091.out
  have hcz29_0 : w13.cell? ⟨gb1091, 0, none⟩ = some (.int .i64 0) := (blk_cell BK1091.out 0).trans rfl
  have hcz29_1 : w13.cell? ⟨gb1091, 1, none⟩ = some (.int .i64 0) := (blk_cell BK1091.out 1).trans rfl
  have hfz29_0 := blk_frozen BK1091.out 0
  have hfz29_1 := blk_frozen BK1091.out 1
  try go_wp2
  refine bodyPost_ret (results_cell_row rfl _ _ gb1091 147 #[.int .i64 (wrap64 (t1092 * t1094)), .int .i64 (wrap64 (t1093 * t1095))] (0, 0) _ rfl (by (with_reducible repeat (first | refine blk_drewN ?_ _ | refine blk_drew ?_ | refine blk_alloc ?_ _)); refine blk_put (cs := #[.int .i64 (wrap64 (t1092 * t1094)), .int .i64 0]) ?_ 1 _ rfl; (with_reducible repeat (first | refine blk_drewN ?_ _ | refine blk_drew ?_ | refine blk_alloc ?_ _)); refine blk_put (cs := #[.int .i64 0, .int .i64 0]) ?_ 0 _ rfl; (with_reducible repeat (first | refine blk_drewN ?_ _ | refine blk_drew ?_ | refine blk_alloc ?_ _)); refine blk_far ?_ NB1091_1097.out _; (with_reducible repeat (first | refine blk_drewN ?_ _ | refine blk_drew ?_ | refine blk_alloc ?_ _)); refine blk_far ?_ NB1091_1097.out _; (with_reducible repeat (first | refine blk_drewN ?_ _ | refine blk_drew ?_ | refine blk_alloc ?_ _)); refine blk_far ?_ NB1091_1096.out _; (with_reducible repeat (first | refine blk_drewN ?_ _ | refine blk_drew ?_ | refine blk_alloc ?_ _)); refine blk_far ?_ NB1091_1096.out _; (with_reducible repeat (first | refine blk_drewN ?_ _ | refine blk_drew ?_ | refine blk_alloc ?_ _)); exact BK1091.out) Try.underlying147 rfl (by kernel_rfl)) rfl ?_
  exact ⟨by first | rfl | (simp [errW_none, errW_some] <;> rfl) | (simp [*, errW_none, errW_some] <;> rfl), by repeat (first | (with_reducible first | exact HB.out | apply below_alloc | apply pw_below_drewN | apply below_drew1 | refine below_set ?_ GE1089.out | refine below_set ?_ GE1090.out | refine below_set ?_ GE1091.out | refine below_set ?_ GE1096.out | refine below_set ?_ GE1097.out) | exact HB.out)⟩
end Go.Proofs.Ytgahigmpcgfbeaa.P
end

section
namespace Go.Proofs.Ytgahigmpcgfbeaa.P
open Go.RowKit Go.Proofs.YtgahigmpcgfbeaaW.PrintWords Go.Proofs.YtgahigmpcgfbeaaW.PrintLast Go.Proofs.YtgahigmpcgfbeaaW.PrintMore
attribute [local go_sem] max2_int min2_int max_two min_two max_three min_three max_four min_four
set_option linter.unusedVariables false
set_option linter.unusedSimpArgs false
def impl_fraction_over.f (k : Nat) (a0_0 : Int) (a0_1 : Int) (a1_0 : Int) (a1_1 : Int) : Option (Int × Int) := (impl_fractionOf.f k a1_1 a1_0).bind fun bt1101 => ((impl_fraction_times.f k a0_0 a0_1 bt1101.1 bt1101.2).bind fun bt1103 => (some (bt1103.1, bt1103.2)))
theorem impl_fraction_over.mono : ∀ a0 a1 a2 a3 k, LeO (impl_fraction_over.f k a0 a1 a2 a3) (impl_fraction_over.f (k + 1) a0 a1 a2 a3) := by
  intro a0 a1 a2 a3 k
  unfold impl_fraction_over.f
  repeat' first
      | (with_reducible exact impl_fractionOf.mono _ _ _)
      | (with_reducible exact impl_fraction_times.mono _ _ _ _ _)
      | (with_reducible exact LeO.refl _)
      | (with_reducible exact LeO.none _)
      | (with_reducible refine LeO.ite ?_ ?_)
      | (with_reducible refine LeO.bind ?_ (fun _ => ?_))
      | exact impl_fractionOf.mono _ _ _
      | exact impl_fraction_times.mono _ _ _ _ _
      | exact LeO.none _
      | refine LeO.ite ?_ ?_
      | refine LeO.bind ?_ (fun _ => ?_)
def impl_fraction_over.T1 : Bool × List (List Nat × List Nat) := (true, [([], []), ([], []), ([1], [1]), ([], []), ([3], [3]), ([2, 4], [2, 4]), ([0, 5, 5], [0, 5]), ([6, 6, 0, 1, 2, 3, 4, 5, 6], [6])])
def impl_fraction_over.B1 : List Nat := [0, 0, 2, 0, 8, 30, 63, 127]
theorem impl_fraction_over.tab1 : rtab .any (opsOf Try.f291 1) = impl_fraction_over.T1 := by kernel_rfl
theorem impl_fraction_over.bits1 : waitsOk impl_fraction_over.T1.2 impl_fraction_over.B1 = true := by kernel_rfl
set_option maxHeartbeats 8000000 in
set_option maxRecDepth 100000 in
theorem impl_fraction_over.calls (k : Nat) (a0_0 : Int) (a0_1 : Int) (a1_0 : Int) (a1_1 : Int) (r1 : Int) (r2 : Int) (w : World) (h : impl_fraction_over.f k a0_0 a0_1 a1_0 a1_1 = some (r1, r2)) :
    Calls Try.prog 291 #[.agg #[.int .i64 a0_0, .int .i64 a0_1], .agg #[.int .i64 a1_0, .int .i64 a1_1]] w fun e w' => e = .returned (.agg #[.int .i64 r1, .int .i64 r2]) ∧ Below w.heap.size w w' := by
  have hu147 := Try.underlying147
  have HB := Aside0.mk (Below.refl w.heap.size w)
  have H : ((impl_fractionOf.f k a1_1 a1_0).bind fun bt1101 => ((impl_fraction_times.f k a0_0 a0_1 bt1101.1 bt1101.2).bind fun bt1103 => (some (bt1103.1, bt1103.2)))) = some (r1, r2) := h
  clear h
  replace H := Option.bind_eq_some_iff.mp H
  obtain ⟨⟨t1101, t1102⟩, A30, H⟩ := H
  replace H : ((impl_fraction_times.f k a0_0 a0_1 t1101 t1102).bind fun bt1103 => (some (bt1103.1, bt1103.2))) = some (r1, r2) := H
  have A3 := Aside0.mk A30
  clear A30
  replace H := Option.bind_eq_some_iff.mp H
  obtain ⟨⟨t1103, t1104⟩, A40, H⟩ := H
  replace H : (some (t1103, t1104)) = some (r1, r2) := H
  have A4 := Aside0.mk A40
  clear A40
  simp only [Option.some.injEq, Prod.mk.injEq] at H
  obtain ⟨rfl, rfl⟩ := H
  go_enter Try.func291, Try.ntmps291
  try go_wp2_with (first | ((with_reducible refine gate_dst (N := 2) rfl ?_); refine box_event ?hg (N := 2) ?hd (cs := #[.int .i64 a0_0, .int .i64 a0_1]) (t := 147) ?hr ?_; (case hd => rfl); (case hg => rfl); (case hr => first | (go_simp; done) | (go_simp; rfl)); intro gb1098 hg w5 hbox hb; have n0_ := Aside0.mk (below_step (by repeat (first | (with_reducible first | exact HB.out | apply below_alloc | apply pw_below_drewN | apply below_drew1) | exact HB.out)) hb); have n1_ := Aside0.mk (hbox); have n2_ := Aside0.mk ((by rw [hg]; exact (below_size (by repeat (first | (with_reducible first | exact HB.out | apply below_alloc | apply pw_below_drewN | apply below_drew1) | exact HB.out))) : w.heap.size ≤ gb1098)); have n3_ := Aside0.mk ((by rw [hg]; exact (below_size (by repeat (first | (with_reducible first | exact HB.out | apply below_alloc | apply pw_below_drewN | apply below_drew1) | exact HB.out))) : w.heap.size ≤ gb1098)); clear HB; have HB := n0_; have BK1098 := n1_; have GW1098 := n2_; have GE1098 := n3_; clear n0_ n1_ n2_ n3_; clear hb hbox hg) | ((with_reducible refine gate_dst (N := 3) rfl ?_); refine box_event ?hg (N := 3) ?hd (cs := #[.int .i64 a1_0, .int .i64 a1_1]) (t := 147) ?hr ?_; (case hd => rfl); (case hg => rfl); (case hr => first | (go_simp; done) | (go_simp; rfl)); intro gb1099 hg w6 hbox hb; have n0_ := Aside0.mk (blk_below (g := gb1098) (o := .cells #[.int .i64 a0_0, .int .i64 a0_1] 147 (0, 0)) (by (with_reducible repeat (first | refine blk_drewN ?_ _ | refine blk_drew ?_ | refine blk_alloc ?_ _)); exact BK1098.out) hb); have n1_ := Aside0.mk (below_step (by repeat (first | (with_reducible first | exact HB.out | apply below_alloc | apply pw_below_drewN | apply below_drew1 | refine below_set ?_ GE1098.out) | exact HB.out)) hb); have n2_ := Aside0.mk (hbox); have n3_ := Aside0.mk ((by rw [hg]; exact (below_size (by repeat (first | (with_reducible first | exact HB.out | apply below_alloc | apply pw_below_drewN | apply below_drew1 | refine below_set ?_ GE1098.out) | exact HB.out))) : w.heap.size ≤ gb1099)); have n4_ := Aside0.mk ((by rw [hg]; exact (below_size (by repeat (first | (with_reducible first | exact HB.out | apply below_alloc | apply pw_below_drewN | apply below_drew1 | refine below_set ?_ GE1098.out) | exact HB.out))) : w.heap.size ≤ gb1099)); have n5_ := Aside0.mk ((by rw [hg]; exact Nat.ne_of_lt (blk_lt (g := gb1098) (o := .cells #[.int .i64 a0_0, .int .i64 a0_1] 147 (0, 0)) (by (with_reducible repeat (first | refine blk_drewN ?_ _ | refine blk_drew ?_ | refine blk_alloc ?_ _)); exact BK1098.out)) : gb1098 ≠ gb1099)); have n6_ := Aside0.mk ((by rw [hg]; exact Nat.ne_of_gt (blk_lt (g := gb1098) (o := .cells #[.int .i64 a0_0, .int .i64 a0_1] 147 (0, 0)) (by (with_reducible repeat (first | refine blk_drewN ?_ _ | refine blk_drew ?_ | refine blk_alloc ?_ _)); exact BK1098.out)) : gb1099 ≠ gb1098)); clear BK1098; clear HB; have BK1098 := n0_; have HB := n1_; have BK1099 := n2_; have GW1099 := n3_; have GE1099 := n4_; have NB1098_1099 := n5_; have NB1099_1098 := n6_; clear n0_ n1_ n2_ n3_ n4_ n5_ n6_; clear hb hbox hg) | ((with_reducible refine gate_dst (N := 4) rfl ?_); refine box_event ?hg (N := 4) ?hd (cs := #[.int .i64 0, .int .i64 0]) (t := 147) ?hr ?_; (case hd => rfl); (case hg => rfl); (case hr => first | (go_simp; done) | (go_simp; rfl)); intro gb1100 hg w7 hbox hb; have n0_ := Aside0.mk (blk_below (g := gb1098) (o := .cells #[.int .i64 a0_0, .int .i64 a0_1] 147 (0, 0)) (by (with_reducible repeat (first | refine blk_drewN ?_ _ | refine blk_drew ?_ | refine blk_alloc ?_ _)); exact BK1098.out) hb); have n1_ := Aside0.mk (blk_below (g := gb1099) (o := .cells #[.int .i64 a1_0, .int .i64 a1_1] 147 (0, 0)) (by (with_reducible repeat (first | refine blk_drewN ?_ _ | refine blk_drew ?_ | refine blk_alloc ?_ _)); exact BK1099.out) hb); have n2_ := Aside0.mk (below_step (by repeat (first | (with_reducible first | exact HB.out | apply below_alloc | apply pw_below_drewN | apply below_drew1 | refine below_set ?_ GE1098.out | refine below_set ?_ GE1099.out) | exact HB.out)) hb); have n3_ := Aside0.mk (hbox); have n4_ := Aside0.mk ((by rw [hg]; exact (below_size (by repeat (first | (with_reducible first | exact HB.out | apply below_alloc | apply pw_below_drewN | apply below_drew1 | refine below_set ?_ GE1098.out | refine below_set ?_ GE1099.out) | exact HB.out))) : w.heap.size ≤ gb1100)); have n5_ := Aside0.mk ((by rw [hg]; exact (below_size (by repeat (first | (with_reducible first | exact HB.out | apply below_alloc | apply pw_below_drewN | apply below_drew1 | refine below_set ?_ GE1098.out | refine below_set ?_ GE1099.out) | exact HB.out))) : w.heap.size ≤ gb1100)); have n6_ := Aside0.mk ((by rw [hg]; exact Nat.ne_of_lt (blk_lt (g := gb1098) (o := .cells #[.int .i64 a0_0, .int .i64 a0_1] 147 (0, 0)) (by (with_reducible repeat (first | refine blk_drewN ?_ _ | refine blk_drew ?_ | refine blk_alloc ?_ _)); exact BK1098.out)) : gb1098 ≠ gb1100)); have n7_ := Aside0.mk ((by rw [hg]; exact Nat.ne_of_gt (blk_lt (g := gb1098) (o := .cells #[.int .i64 a0_0, .int .i64 a0_1] 147 (0, 0)) (by (with_reducible repeat (first | refine blk_drewN ?_ _ | refine blk_drew ?_ | refine blk_alloc ?_ _)); exact BK1098.out)) : gb1100 ≠ gb1098)); have n8_ := Aside0.mk ((by rw [hg]; exact Nat.ne_of_lt (blk_lt (g := gb1099) (o := .cells #[.int .i64 a1_0, .int .i64 a1_1] 147 (0, 0)) (by (with_reducible repeat (first | refine blk_drewN ?_ _ | refine blk_drew ?_ | refine blk_alloc ?_ _)); exact BK1099.out)) : gb1099 ≠ gb1100)); have n9_ := Aside0.mk ((by rw [hg]; exact Nat.ne_of_gt (blk_lt (g := gb1099) (o := .cells #[.int .i64 a1_0, .int .i64 a1_1] 147 (0, 0)) (by (with_reducible repeat (first | refine blk_drewN ?_ _ | refine blk_drew ?_ | refine blk_alloc ?_ _)); exact BK1099.out)) : gb1100 ≠ gb1099)); clear BK1098; clear BK1099; clear HB; have BK1098 := n0_; have BK1099 := n1_; have HB := n2_; have BK1100 := n3_; have GW1100 := n4_; have GE1100 := n5_; have NB1098_1100 := n6_; have NB1100_1098 := n7_; have NB1099_1100 := n8_; have NB1100_1099 := n9_; clear n0_ n1_ n2_ n3_ n4_ n5_ n6_ n7_ n8_ n9_; clear hb hbox hg))
  have n0_ := Aside0.mk (blk_drew BK1098.out)
  have n1_ := Aside0.mk (blk_drew BK1099.out)
  have n2_ := Aside0.mk (blk_drew BK1100.out)
  have n3_ := Aside0.mk (below_drew1 HB.out)
  clear BK1098
  clear BK1099
  clear BK1100
  clear HB
  have BK1098 := n0_
  have BK1099 := n1_
  have BK1100 := n2_
  have HB := n3_
  clear n0_ n1_ n2_ n3_
  refine start_ (n := 8) (S := fun w' => w'.cell? ⟨gb1098, 0, none⟩ = some (.int .i64 a0_0) ∧ w'.cell? ⟨gb1098, 1, none⟩ = some (.int .i64 a0_1) ∧ w'.cell? ⟨gb1099, 0, none⟩ = some (.int .i64 a1_0) ∧ w'.cell? ⟨gb1099, 1, none⟩ = some (.int .i64 a1_1)) (ds := []) #[false, false, false, false, false, false, false, false] (by kernel_rfl) rfl rfl ⟨(blk_cell BK1098.out 0).trans rfl, (blk_cell BK1098.out 1).trans rfl, (blk_cell BK1099.out 0).trans rfl, (blk_cell BK1099.out 1).trans rfl⟩ (fun hHeld => ?_); refine with_tabW impl_fraction_over.tab1 impl_fraction_over.bits1 (fun HT_ HW_ => ?_)
  generalize w7.drew = w8 at BK1098 BK1099 BK1100 HB hHeld ⊢
  refine pure_ (i := 1) (N := some 6) (v := ?_) (a' := ?_) #[false, true, false, false, false, false, false, false] rfl rfl (any_of HT_.out (by kernel_rfl)) (fun _ _ _ h => h) (Or.inl ⟨by rfl, ?_⟩) ?_ ?_
  rotate_left
  · intro w'
    go_simp
    with_reducible rfl
  rotate_left
  · simp only [Act.put, List.setIfInBounds_toArray, List.set_cons_zero, List.set_cons_succ, i64_w, i32_w]
    rfl
  refine pure_ (i := 3) (N := some 8) (v := ?_) (a' := ?_) #[false, true, false, true, false, false, false, false] rfl rfl (any_of HT_.out (by kernel_rfl)) (fun _ _ _ h => h) (Or.inl ⟨by rfl, ?_⟩) ?_ ?_
  rotate_left
  · intro w'
    go_simp
    with_reducible rfl
  rotate_left
  · simp only [Act.put, List.setIfInBounds_toArray, List.set_cons_zero, List.set_cons_succ, i64_w, i32_w]
    rfl
  refine take_ (i := 0) (N := some 5) (v := ?_) (a' := ?_) #[true, true, false, true, false, false, false, false] rfl rfl (take_ofW HT_.out HW_.out (by kernel_rfl)) (fun _ _ _ h => h) (Or.inl ⟨by rfl, ?_⟩) hHeld ?_ ?_
  rotate_left
  · rintro w' ⟨s0, s1, s2, s3⟩
    go_simp
    with_reducible rfl
  rotate_left
  · simp only [Act.put, List.setIfInBounds_toArray, List.set_cons_zero, List.set_cons_succ, i64_w, i32_w]
    rfl
  refine take_ (i := 2) (N := some 7) (v := ?_) (a' := ?_) #[true, true, true, true, false, false, false, false] rfl rfl (take_ofW HT_.out HW_.out (by kernel_rfl)) (fun _ _ _ h => h) (Or.inl ⟨by rfl, ?_⟩) hHeld ?_ ?_
  rotate_left
  · rintro w' ⟨s0, s1, s2, s3⟩
    go_simp
    with_reducible rfl
  rotate_left
  · simp only [Act.put, List.setIfInBounds_toArray, List.set_cons_zero, List.set_cons_succ, i64_w, i32_w]
    rfl
  refine take_ (i := 4) (N := some 9) (v := ?_) (a' := ?_) #[true, true, true, true, true, false, false, false] rfl rfl (take_ofW HT_.out HW_.out (by kernel_rfl)) (fun _ _ _ h => h) (Or.inl ⟨by rfl, ?_⟩) hHeld ?_ ?_
  rotate_left
  · rintro w' ⟨s0, s1, s2, s3⟩
    go_simp
    with_reducible rfl
  rotate_left
  · simp only [Act.put, List.setIfInBounds_toArray, List.set_cons_zero, List.set_cons_succ, i64_w, i32_w]
    rfl
  refine one_ (i := 5) (N := some 10) #[true, true, true, true, true, true, false, false] rfl rfl (one_of HT_.out (by kernel_rfl)) (by decide) (fun K hK => ?_)
  refine goes_ Try.func220 (by kernel_rfl) rfl #[.int .i64 a1_1, .int .i64 a1_0] (by rfl) rfl rfl (by (try simp only [List.map_toArray, List.map_cons, List.map_nil]); first | done | rfl | (simp only [List.length_drop, List.length_take]; rfl)) ?_
  with_reducible refine (impl_fractionOf.calls k a1_1 a1_0 t1101 t1102 _ A3.out).mono ?_
  rintro e w9 ⟨rfl, hb⟩
  refine ⟨_, rfl, ?_⟩
  have n0_ := Aside0.mk (blk_below (g := gb1098) (o := .cells #[.int .i64 a0_0, .int .i64 a0_1] 147 (0, 0)) (by (with_reducible repeat (first | refine blk_drewN ?_ _ | refine blk_drew ?_ | refine blk_alloc ?_ _)); exact BK1098.out) hb)
  have n1_ := Aside0.mk (blk_below (g := gb1099) (o := .cells #[.int .i64 a1_0, .int .i64 a1_1] 147 (0, 0)) (by (with_reducible repeat (first | refine blk_drewN ?_ _ | refine blk_drew ?_ | refine blk_alloc ?_ _)); exact BK1099.out) hb)
  have n2_ := Aside0.mk (blk_below (g := gb1100) (o := .cells #[.int .i64 0, .int .i64 0] 147 (0, 0)) (by (with_reducible repeat (first | refine blk_drewN ?_ _ | refine blk_drew ?_ | refine blk_alloc ?_ _)); exact BK1100.out) hb)
  have n3_ := Aside0.mk (below_step (by repeat (first | (with_reducible first | exact HB.out | apply below_alloc | apply pw_below_drewN | apply below_drew1 | refine below_set ?_ GE1098.out | refine below_set ?_ GE1099.out | refine below_set ?_ GE1100.out) | exact HB.out)) hb)
  clear BK1098
  clear BK1099
  clear BK1100
  clear HB
  have BK1098 := n0_
  have BK1099 := n1_
  have BK1100 := n2_
  have HB := n3_
  clear n0_ n1_ n2_ n3_
  (try clear hb)
  (try clear hb2)
  (try clear hk)
  (try clear hi)
  refine hK.out _ _ ⟨(blk_cell BK1098.out 0).trans rfl, (blk_cell BK1098.out 1).trans rfl, (blk_cell BK1099.out 0).trans rfl, (blk_cell BK1099.out 1).trans rfl⟩ (fun hHeld => ?_)
  clear hK K
  refine norm_ (a' := ?_) ?_ ?_
  rotate_left
  · show Act.put _ (some 10) _ = _
    simp only [Act.put, List.setIfInBounds_toArray, List.set_cons_zero, List.set_cons_succ, i64_w, i32_w]
    rfl
  refine one_ (i := 6) (N := some 11) #[true, true, true, true, true, true, true, false] rfl rfl (one_of HT_.out (by kernel_rfl)) (by decide) (fun K hK => ?_)
  refine goes_ Try.func301 (by kernel_rfl) rfl #[.agg #[.int .i64 a0_0, .int .i64 a0_1], .agg #[.int .i64 t1101, .int .i64 t1102]] (by rfl) rfl rfl (by (try simp only [List.map_toArray, List.map_cons, List.map_nil]); first | done | rfl | (simp only [List.length_drop, List.length_take]; rfl)) ?_
  with_reducible refine (impl_fraction_times.calls k a0_0 a0_1 t1101 t1102 t1103 t1104 _ A4.out).mono ?_
  rintro e w10 ⟨rfl, hb⟩
  refine ⟨_, rfl, ?_⟩
  have n0_ := Aside0.mk (blk_below (g := gb1098) (o := .cells #[.int .i64 a0_0, .int .i64 a0_1] 147 (0, 0)) (by (with_reducible repeat (first | refine blk_drewN ?_ _ | refine blk_drew ?_ | refine blk_alloc ?_ _)); exact BK1098.out) hb)
  have n1_ := Aside0.mk (blk_below (g := gb1099) (o := .cells #[.int .i64 a1_0, .int .i64 a1_1] 147 (0, 0)) (by (with_reducible repeat (first | refine blk_drewN ?_ _ | refine blk_drew ?_ | refine blk_alloc ?_ _)); exact BK1099.out) hb)
  have n2_ := Aside0.mk (blk_below (g := gb1100) (o := .cells #[.int .i64 0, .int .i64 0] 147 (0, 0)) (by (with_reducible repeat (first | refine blk_drewN ?_ _ | refine blk_drew ?_ | refine blk_alloc ?_ _)); exact BK1100.out) hb)
  have n3_ := Aside0.mk (below_step (by repeat (first | (with_reducible first | exact HB.out | apply below_alloc | apply pw_below_drewN | apply below_drew1 | refine below_set ?_ GE1098.out | refine below_set ?_ GE1099.out | refine below_set ?_ GE1100.out) | exact HB.out)) hb)
  clear BK1098
  clear BK1099
  clear BK1100
  clear HB
  have BK1098 := n0_
  have BK1099 := n1_
  have BK1100 := n2_
  have HB := n3_
  clear n0_ n1_ n2_ n3_
  (try clear hb)
  (try clear hb2)
  (try clear hk)
  (try clear hi)
  refine hK.out _ _ ⟨(blk_cell BK1098.out 0).trans rfl, (blk_cell BK1098.out 1).trans rfl, (blk_cell BK1099.out 0).trans rfl, (blk_cell BK1099.out 1).trans rfl⟩ (fun hHeld => ?_)
  clear hK K
  refine norm_ (a' := ?_) ?_ ?_
  rotate_left
  · show Act.put _ (some 11) _ = _
    simp only [Act.put, List.setIfInBounds_toArray, List.set_cons_zero, List.set_cons_succ, i64_w, i32_w]
    rfl
  refine one_ (i := 7) (N := none) #[true, true, true, true, true, true, true, true] rfl rfl (one_of HT_.out (by kernel_rfl)) (by decide) (fun K hK => ?_)
  have hs11 : w10.cell? ⟨gb1100, 0, none⟩ = some (.int .i64 0) := (blk_cell BK1100.out 0).trans rfl
  have hfs11 := blk_frozen BK1100.out 0
  have hns11_0 := NB1098_1100.out
  have hns11_1 := NB1099_1100.out
  have hms11_0 := NB1100_1098.out
  have hms11_1 := NB1100_1099.out
  have hs12 : w10.cell? ⟨gb1100, 1, none⟩ = some (.int .i64 0) := (blk_cell BK1100.out 1).trans rfl
  have hfs12 := blk_frozen BK1100.out 1
  have hns12_0 := NB1098_1100.out
  have hns12_1 := NB1099_1100.out
  have hms12_0 := NB1100_1098.out
  have hms12_1 := NB1100_1099.out
  refine skip_ (w1 := ?_) (by rfl) rfl ?_ ?_
  rotate_left
  · go_simp
    rfl
  refine hK.out _ _ ⟨((cell_far (p := ⟨gb1100, _, none⟩) NB1098_1100.out _).trans (((cell_far (p := ⟨gb1100, _, none⟩) NB1098_1100.out _).trans (hHeld.1)))), ((cell_far (p := ⟨gb1100, _, none⟩) NB1098_1100.out _).trans (((cell_far (p := ⟨gb1100, _, none⟩) NB1098_1100.out _).trans (hHeld.2.1)))), ((cell_far (p := ⟨gb1100, _, none⟩) NB1099_1100.out _).trans (((cell_far (p := ⟨gb1100, _, none⟩) NB1099_1100.out _).trans (hHeld.2.2.1)))), ((cell_far (p := ⟨gb1100, _, none⟩) NB1099_1100.out _).trans (((cell_far (p := ⟨gb1100, _, none⟩) NB1099_1100.out _).trans (hHeld.2.2.2))))⟩ (fun hHeld => ?_)
  clear hK K
  refine done_ (done_of HT_.out (by kernel_rfl)) ?_
  try go_wp2
  refine bodyPost_ret (results_cell_row rfl _ _ gb1100 147 #[.int .i64 t1103, .int .i64 t1104] (0, 0) _ rfl (by (with_reducible repeat (first | refine blk_drewN ?_ _ | refine blk_drew ?_ | refine blk_alloc ?_ _)); refine blk_put (cs := #[.int .i64 t1103, .int .i64 0]) ?_ 1 _ rfl; (with_reducible repeat (first | refine blk_drewN ?_ _ | refine blk_drew ?_ | refine blk_alloc ?_ _)); refine blk_put (cs := #[.int .i64 0, .int .i64 0]) ?_ 0 _ rfl; (with_reducible repeat (first | refine blk_drewN ?_ _ | refine blk_drew ?_ | refine blk_alloc ?_ _)); exact BK1100.out) Try.underlying147 rfl (by kernel_rfl)) rfl ?_
  exact ⟨by first | rfl | (simp [errW_none, errW_some] <;> rfl) | (simp [*, errW_none, errW_some] <;> rfl), by repeat (first | (with_reducible first | exact HB.out | apply below_alloc | apply pw_below_drewN | apply below_drew1 | refine below_set ?_ GE1098.out | refine below_set ?_ GE1099.out | refine below_set ?_ GE1100.out) | exact HB.out)⟩
end Go.Proofs.Ytgahigmpcgfbeaa.P
end

section
namespace Go.Proofs.Ytgahigmpcgfbeaa.P
set_option linter.unusedVariables false
set_option linter.unusedSimpArgs false
open Go.RowKit Go.Proofs.YtgahigmpcgfbeaaW.PrintWords Go.Proofs.YtgahigmpcgfbeaaW.PrintLast Go.Proofs.YtgahigmpcgfbeaaW.PrintMore
attribute [local go_sem] max2_int min2_int max_two min_two max_three min_three max_four min_four
abbrev frV (x : Int × Int) : Value := .agg #[.int .i64 x.1, .int .i64 x.2]
def twL (s f : Int) : List Value := (List.range (s.toNat + 1)).flatMap fun a : Nat => (List.range (s.toNat + 1)).map fun b : Nat => tw s f (a : Int) (b : Int)
def twF (ru : Nat) (s f : Int) (k v : Value) : Prop := ∃ a b : Int, 0 ≤ a ∧ a ≤ s ∧ 0 ≤ b ∧ b ≤ s ∧ k = tw s f a b ∧ v = frV (mT ru s f a b)
def pk (ru : Nat) (a b : Int) (X Y : Int × Int) : Option Int :=
  match ru with
  | 0 => (impl_fraction_compare.f 99 Y.1 Y.2 X.1 X.2).map fun c => if c < 0 then 1 else 0
  | 1 => (impl_fraction_compare.f 99 Y.1 Y.2 X.1 X.2).map fun c => if 0 < c then 1 else 0
  | 2 => some (if b ≤ a then 0 else 1)
  | _ => some (if b ≤ a then 1 else 0)
def tk (ru : Nat) (s f a b x : Int) : Option Int :=
  if a + x ≤ s then (if b + x ≤ s then pk ru a b (mT ru s f (a + x) b) (mT ru s f a (b + x)) else some 0) else (if b + x ≤ s then some 1 else some (-1))
def sm (ru : Nat) (s f a b : Int) : Nat → Int → Int × Int → Int → Option ((Int × Int) × Int)
  | 0, _, q, m => some (q, m)
  | n + 1, x, q, m => (tk ru s f a b x).bind fun t =>
    if 0 ≤ t then
      (let y := mT ru s f (if t = 0 then a + x else a) (if t = 0 then b else b + x)
       (impl_fraction_plus.f 99 q.1 q.2 y.1 y.2).bind fun r => sm ru s f a b n (x + 1) r (m + 1))
    else sm ru s f a b n (x + 1) q m
def stO (ru : Nat) (s f a b : Int) : Option (Int × Int) :=
  if a = s ∧ b = s then some (0, 1) else (sm ru s f a b f.toNat 1 (f, 1) 0).bind fun r => impl_fraction_over.f 99 r.1.1 r.1.2 r.2 1
abbrev chO : Value := .func (.func 245) #[] #[]
structure Sw (ru : Nat) (s f a b : Int) (ch : Value) (B : Nat) (w W : World) : Prop where
  map : memo Try.prog 133 (twF ru s f) (twL s f) B W
  bx : Bx w.heap.size B w W
  k0 : W.heap[w.heap.size]? = some (.cells #[ch, .map (some B)] 163 (0, 0))
  k1 : W.heap[w.heap.size + 1]? = some (.cells #[.int .i64 s, .int .i64 f, .int .i64 a, .int .i64 b] 133 (0, 0))
  lt : B < w.heap.size
section
variable {ru : Nat} {s f a b : Int} {ch : Value} {B : Nat} {w W W' : World}
theorem Sw.drew (h : Sw ru s f a b ch B w W) : Sw ru s f a b ch B w W.drew := ⟨h.map, bx_drew h.bx, h.k0, h.k1, h.lt⟩
theorem Sw.drewN (h : Sw ru s f a b ch B w W) (n : Nat) : Sw ru s f a b ch B w (W.drewN n) := ⟨h.map, bx_drewN h.bx n, h.k0, h.k1, h.lt⟩
theorem Sw.below (h : Sw ru s f a b ch B w W) (hb : Below W.heap.size W W') : Sw ru s f a b ch B w W' := ⟨h.map.below hb, h.bx.andB hb, blk_below h.k0 hb, blk_below h.k1 hb, h.lt⟩
theorem Sw.set (h : Sw ru s f a b ch B w W) {g : Nat} (hg : w.heap.size + 2 ≤ g) (i : Nat) (u : Value) : Sw ru s f a b ch B w (W.setCell ⟨g, i, none⟩ u) :=
  have hl := h.lt
  ⟨h.map.set (fun e => by have e : g = B := e; omega) u, bx_set h.bx (show w.heap.size ≤ g by omega) u, (Below.heap_setCell _ _ _ _ (show w.heap.size ≠ g by omega)).trans h.k0, (Below.heap_setCell _ _ _ _ (show w.heap.size + 1 ≠ g by omega)).trans h.k1, h.lt⟩
theorem Sw.alloc (h : Sw ru s f a b ch B w W) (o : Obj) : Sw ru s f a b ch B w (W.alloc o) := h.below ((Below.refl _ _).alloc (Nat.le_refl _) o)
theorem Sw.mean (h : Sw ru s f a b ch B w W) (hm : memo Try.prog 133 (twF ru s f) (twL s f) B W') (hb : Bx W.heap.size B W W') : Sw ru s f a b ch B w W' :=
  ⟨hm, h.bx.next hb, blk_bx h.k0 hb (by have := h.lt; omega), blk_bx h.k1 hb (by have := h.lt; omega), h.lt⟩
abbrev Sv (ru : Nat) (s f a b : Int) (ch : Value) (B : Nat) (w W : World) : Prop :=
  Aside0 (Sw ru s f a b ch B w W) ∧ W.cell? ⟨w.heap.size, 0, none⟩ = some ch ∧ W.cell? ⟨w.heap.size, 1, none⟩ = some (.map (some B)) ∧ W.cell? ⟨w.heap.size + 1, 0, none⟩ = some (.int .i64 s) ∧ W.cell? ⟨w.heap.size + 1, 1, none⟩ = some (.int .i64 f) ∧
    W.cell? ⟨w.heap.size + 1, 2, none⟩ = some (.int .i64 a) ∧ W.cell? ⟨w.heap.size + 1, 3, none⟩ = some (.int .i64 b)
theorem Sw.all (h : Sw ru s f a b ch B w W) : Sv ru s f a b ch B w W :=
  ⟨⟨h⟩, (blk_cell h.k0 0).trans rfl, (blk_cell h.k0 1).trans rfl, (blk_cell h.k1 0).trans rfl, (blk_cell h.k1 1).trans rfl, (blk_cell h.k1 2).trans rfl, (blk_cell h.k1 3).trans rfl⟩
end
theorem twins_moved0 (s f a b x : Int) (h1 : -9223372036854775808 ≤ a + x) (h2 : a + x ≤ 9223372036854775807) (h3 : -9223372036854775808 ≤ b + x) (h4 : b + x ≤ 9223372036854775807) (w : World) :
    Calls Try.prog 252 #[tw s f a b, .int .i64 0, .int .i64 x] w fun e w' => e = .returned (tw s f (a + x) b) ∧ Below w.heap.size w w' := by
  have h := twins_moved s f a b x 0 (Or.inl rfl) h1 h2 h3 h4 w
  rwa [if_pos rfl, if_pos rfl] at h
theorem twins_moved1 (s f a b x : Int) (h1 : -9223372036854775808 ≤ a + x) (h2 : a + x ≤ 9223372036854775807) (h3 : -9223372036854775808 ≤ b + x) (h4 : b + x ≤ 9223372036854775807) (w : World) :
    Calls Try.prog 252 #[tw s f a b, .int .i64 1, .int .i64 x] w fun e w' => e = .returned (tw s f a (b + x)) ∧ Below w.heap.size w w' := by
  have h := twins_moved s f a b x 1 (Or.inr rfl) h1 h2 h3 h4 w
  rwa [if_neg (by decide), if_neg (by decide)] at h
set_option maxHeartbeats 4000000 in
set_option maxRecDepth 100000 in
theorem choice_0 (s f : Int) (B : Nat) (a b x : Int) (tok : Int) (w : World) (hs : 1 ≤ s ∧ s ≤ 6) (hf : 1 ≤ f ∧ f ≤ 4) (ha : 0 ≤ a ∧ a ≤ s) (hb : 0 ≤ b ∧ b ≤ s) (hx : 1 ≤ x ∧ x ≤ f)
    (hm : memo Try.prog 133 (twF 0 s f) (twL s f) B w) (ht : tk 0 s f a b x = some tok)
    (ih : ∀ (a' b' : Int) (w : World), 0 ≤ a' ∧ a' ≤ s → 0 ≤ b' ∧ b' ≤ s → a' + b' > a + b → memo Try.prog 133 (twF 0 s f) (twL s f) B w →
      Calls Try.prog 251 #[.agg #[chO, .map (some B)], tw s f a' b'] w fun e w' => e = .returned (frV (mT 0 s f a' b')) ∧ memo Try.prog 133 (twF 0 s f) (twL s f) B w' ∧ Bx w.heap.size B w w') :
    Calls Try.prog 256 #[.agg #[chO, .map (some B)], tw s f a b, .int .i64 x] w fun e w' => e = .returned (.int .i64 tok) ∧ memo Try.prog 133 (twF 0 s f) (twL s f) B w' ∧ Bx w.heap.size B w w' := by
  have HM := Aside0.mk ((hm.alloc (.cells #[chO, .map (some B)] 163)).alloc (.cells #[.int .i64 s, .int .i64 f, .int .i64 a, .int .i64 b] 133))
  have HB := Aside0.mk (below_alloc (below_alloc (Below.refl w.heap.size w) (.cells #[chO, .map (some B)] 163)) (.cells #[.int .i64 s, .int .i64 f, .int .i64 a, .int .i64 b] 133))
  have HG := Aside0.mk (blk_alloc (blk_new w (.cells #[chO, .map (some B)] 163)) (.cells #[.int .i64 s, .int .i64 f, .int .i64 a, .int .i64 b] 133))
  have HT := Aside0.mk (by have h := blk_new (w.alloc (.cells #[chO, .map (some B)] 163)) (.cells #[.int .i64 s, .int .i64 f, .int .i64 a, .int .i64 b] 133); rw [World.size_alloc] at h; exact h : ((w.alloc (.cells #[chO, .map (some B)] 163)).alloc (.cells #[.int .i64 s, .int .i64 f, .int .i64 a, .int .i64 b] 133)).heap[w.heap.size + 1]? = some (.cells #[.int .i64 s, .int .i64 f, .int .i64 a, .int .i64 b] 133 (0, 0)))
  have IH := Aside0.mk ih
  have hsc := @store_func Try.prog (.func 245) #[] #[]
  have hlt := hm.lt
  clear ih hm
  unfold tk at ht
  go_enter Try.func256, Try.ntmps256
  by_cases c1 : a + x ≤ s
  · by_cases c2 : b + x ≤ s
    · rw [if_pos c1, if_pos c2] at ht
      go_wp2_with (go_at_call 250; go_loud (refine (twins_moves s f a b x (by omega) (by omega) (by omega) (by omega) _).mono ?_; rintro e w1 ⟨v, rfl, ho, hb1⟩; obtain ⟨A, cp, rfl, hcp, hC⟩ := Kd.R_reads ho; have hl : mvs s a b x 2 = [0, 1] := (by simp [mvs, c1, c2]); simp only [hl] at hC ⊢; simp only [List.length_cons, List.length_nil, Nat.zero_add, Nat.reduceAdd] at hC ⊢; clear ho hl; have n0_ := Aside0.mk (HM.out.below hb1); have n1_ := Aside0.mk (blk_below HG.out hb1); have n2_ := Aside0.mk (blk_below HT.out hb1); have n3_ := Aside0.mk (bT HB.out hb1); have HC := Aside0.mk hC; clear hC HM HG HT HB hb1; have HM := n0_; have HG := n1_; have HT := n2_; have HB := n3_; clear n0_ n1_ n2_ n3_))
      obtain ⟨c, hc, htok⟩ := Option.map_eq_some_iff.1 ht
      have HW := Aside0.mk (⟨HM.out, bx_of HB.out, HG.out, HT.out, hlt⟩ : Sw 0 s f a b chO B w w1)
      have m1 : -9223372036854775808 ≤ a + x := by omega
      have m2 : a + x ≤ 9223372036854775807 := by omega
      have m3 : -9223372036854775808 ≤ b + x := by omega
      have m4 : b + x ≤ 9223372036854775807 := by omega
      clear HC
      go_region_held3 (fun W => Sv 0 s f a b chO B w W) (first | exact HW.out.drew.all | exact (HW.out.drew.below hb9).all | exact ((HW.out.drew.below hb9).mean hm10 hb10).all | exact (((HW.out.drew.below hb9).mean hm10 hb10).below hb11).all | exact ((((HW.out.drew.below hb9).mean hm10 hb10).below hb11).mean hm12 hb12).all | exact (((((HW.out.drew.below hb9).mean hm10 hb10).below hb11).mean hm12 hb12).below hb13).all) (first
        | (go_at_call 252; (with_reducible refine (twins_moved0 s f a b x m1 m2 m3 m4 _).mono ?_); rintro e w9 ⟨rfl, hb9⟩)
        | (go_at_call 252; (with_reducible refine (twins_moved1 s f a b x m1 m2 m3 m4 _).mono ?_); rintro e w11 ⟨rfl, hb11⟩)
        | (go_at_call 251; (with_reducible refine (IH.out (a + x) b _ ⟨by omega, c1⟩ hb (by omega) (HW.out.drew.below hb9).map).mono ?_); rintro e w10 ⟨rfl, hm10, hb10⟩)
        | (go_at_call 251; (with_reducible refine (IH.out a (b + x) _ ha ⟨by omega, c2⟩ (by omega) (((HW.out.drew.below hb9).mean hm10 hb10).below hb11).map).mono ?_); rintro e w12 ⟨rfl, hm12, hb12⟩)
        | (go_at_call 245; (with_reducible refine (least_calls s f a b _ _ _ _ 99 c hc _).mono ?_); rintro e w13 ⟨rfl, hb13⟩))
      have HE := (((((HW.out.drew.below hb9).mean hm10 hb10).below hb11).mean hm12 hb12).below hb13)
      go_wp2
      go_ret
      exact ⟨by first | rfl | rw [htok], HE.map, HE.bx⟩
    · rw [if_pos c1, if_neg c2] at ht
      obtain rfl := Option.some.inj ht
      go_wp2_with (go_at_call 250; refine (twins_moves s f a b x (by omega) (by omega) (by omega) (by omega) _).mono ?_; rintro e w1 ⟨v, rfl, ho, hb1⟩; have hl : mvs s a b x 2 = [0] := (by simp [mvs, c1, c2]); rw [hl] at ho; obtain ⟨g1, cp, rfl, _, _, _⟩ := Kd.R_form ho (by decide); have h0 : w1.cell? ⟨g1, 0, none⟩ = some (.int .i64 0) := (by obtain ⟨ad, e, h0⟩ := Kd.at_int (Kd.R_reads' ho).2.2 0 (by decide) (by decide); obtain rfl : (⟨g1, 0, none⟩ : Addr) = ad := Option.some.inj e; exact h0); simp only [List.length_cons, List.length_nil, Nat.zero_add]; clear ho hl; have n0_ := Aside0.mk (HM.out.below hb1); have n3_ := Aside0.mk (bT HB.out hb1); clear HM HB hb1; have HM := n0_; have HB := n3_; clear n0_ n3_)
      go_ret
      exact ⟨rfl, HM.out, bx_of HB.out⟩
  · by_cases c2 : b + x ≤ s
    · rw [if_neg c1, if_pos c2] at ht
      obtain rfl := Option.some.inj ht
      go_wp2_with (go_at_call 250; refine (twins_moves s f a b x (by omega) (by omega) (by omega) (by omega) _).mono ?_; rintro e w1 ⟨v, rfl, ho, hb1⟩; have hl : mvs s a b x 2 = [1] := (by simp [mvs, c1, c2]); rw [hl] at ho; obtain ⟨g1, cp, rfl, _, _, _⟩ := Kd.R_form ho (by decide); have h0 : w1.cell? ⟨g1, 0, none⟩ = some (.int .i64 1) := (by obtain ⟨ad, e, h0⟩ := Kd.at_int (Kd.R_reads' ho).2.2 0 (by decide) (by decide); obtain rfl : (⟨g1, 0, none⟩ : Addr) = ad := Option.some.inj e; exact h0); simp only [List.length_cons, List.length_nil, Nat.zero_add]; clear ho hl; have n0_ := Aside0.mk (HM.out.below hb1); have n3_ := Aside0.mk (bT HB.out hb1); clear HM HB hb1; have HM := n0_; have HB := n3_; clear n0_ n3_)
      go_ret
      exact ⟨rfl, HM.out, bx_of HB.out⟩
    · rw [if_neg c1, if_neg c2] at ht
      obtain rfl := Option.some.inj ht
      go_wp2_with (go_at_call 250; refine (twins_moves s f a b x (by omega) (by omega) (by omega) (by omega) _).mono ?_; rintro e w1 ⟨v, rfl, ho, hb1⟩; have hl : mvs s a b x 2 = [] := (by simp [mvs, c1, c2]); rw [hl] at ho; obtain ⟨A, cp, rfl, hcp, hC⟩ := Kd.R_reads ho; simp only [List.length_nil]; clear hC; clear ho hl; have n0_ := Aside0.mk (HM.out.below hb1); have n3_ := Aside0.mk (bT HB.out hb1); clear HM HB hb1; have HM := n0_; have HB := n3_; clear n0_ n3_)
      go_ret
      exact ⟨rfl, HM.out, bx_of HB.out⟩
end Go.Proofs.Ytgahigmpcgfbeaa.P
end

section
namespace Go.Proofs.Ytgahigmpcgfbeaa.P
set_option linter.unusedVariables false
set_option linter.unusedSimpArgs false
open Go.RowKit Go.Proofs.YtgahigmpcgfbeaaW.PrintWords Go.Proofs.YtgahigmpcgfbeaaW.PrintLast Go.Proofs.YtgahigmpcgfbeaaW.PrintMore
attribute [local go_sem] max2_int min2_int max_two min_two max_three min_three max_four min_four
theorem pk_cases {ru : Nat} {a b : Int} {X Y : Int × Int} {t : Int} (h : pk ru a b X Y = some t) : t = 0 ∨ t = 1 := by
  unfold pk at h
  split at h
  · obtain ⟨c, _, rfl⟩ := Option.map_eq_some_iff.1 h
    by_cases hc : c < 0 <;> simp [hc]
  · obtain ⟨c, _, rfl⟩ := Option.map_eq_some_iff.1 h
    by_cases hc : 0 < c <;> simp [hc]
  · by_cases hc : b ≤ a <;> simp [hc] at h <;> omega
  · by_cases hc : b ≤ a <;> simp [hc] at h <;> omega
theorem tk_cases {ru : Nat} {s f a b x t : Int} (h : tk ru s f a b x = some t) : t = -1 ∨ (t = 0 ∧ a + x ≤ s) ∨ (t = 1 ∧ b + x ≤ s) := by
  unfold tk at h
  by_cases c1 : a + x ≤ s
  · by_cases c2 : b + x ≤ s
    · rw [if_pos c1, if_pos c2] at h
      rcases pk_cases h with rfl | rfl
      · exact Or.inr (Or.inl ⟨rfl, c1⟩)
      · exact Or.inr (Or.inr ⟨rfl, c2⟩)
    · rw [if_pos c1, if_neg c2] at h
      exact Or.inr (Or.inl ⟨(Option.some.inj h).symm, c1⟩)
  · by_cases c2 : b + x ≤ s
    · rw [if_neg c1, if_pos c2] at h
      exact Or.inr (Or.inr ⟨(Option.some.inj h).symm, c2⟩)
    · rw [if_neg c1, if_neg c2] at h
      exact Or.inl (Option.some.inj h).symm
theorem twL_mem {s f a b : Int} (ha : 0 ≤ a ∧ a ≤ s) (hb : 0 ≤ b ∧ b ≤ s) : tw s f a b ∈ twL s f := by
  unfold twL
  rw [List.mem_flatMap]
  refine ⟨a.toNat, List.mem_range.2 (by omega), List.mem_map.2 ⟨b.toNat, List.mem_range.2 (by omega), ?_⟩⟩
  have e1 : (a.toNat : Int) = a := by omega
  have e2 : (b.toNat : Int) = b := by omega
  simp only [e1, e2]
theorem twL_len {s f : Int} (hs : 1 ≤ s ∧ s ≤ 6) : (twL s f).length < maxLen := by
  have h : s.toNat ≤ 6 := by omega
  have e : (twL s f).length = (s.toNat + 1) * (s.toNat + 1) := by simp [twL, List.length_flatMap, List.map_const', List.sum_replicate_nat]
  rw [e]
  have := Nat.mul_le_mul (show s.toNat + 1 ≤ 7 by omega) (show s.toNat + 1 ≤ 7 by omega)
  unfold maxLen
  omega
theorem twF_val {ru : Nat} {s f a b : Int} {v : Value} (h : twF ru s f (tw s f a b) v) : v = frV (mT ru s f a b) := by
  obtain ⟨a', b', _, _, _, _, e, rfl⟩ := h
  simp only [Value.agg.injEq, Array.mk.injEq, List.cons.injEq, Value.int.injEq, true_and, and_true] at e
  obtain ⟨rfl, rfl⟩ := e
  rfl
set_option maxHeartbeats 8000000 in
set_option maxRecDepth 100000 in
theorem mean_step_0 (s f : Int) (B : Nat) (a b : Int) (w : World) (hs : 1 ≤ s ∧ s ≤ 6) (hf : 1 ≤ f ∧ f ≤ 4) (ha : 0 ≤ a ∧ a ≤ s) (hb : 0 ≤ b ∧ b ≤ s)
    (hm : memo Try.prog 133 (twF 0 s f) (twL s f) B w) (hst : stO 0 s f a b = some (mT 0 s f a b))
    (ih : ∀ (a' b' : Int) (w : World), 0 ≤ a' ∧ a' ≤ s → 0 ≤ b' ∧ b' ≤ s → a' + b' > a + b → memo Try.prog 133 (twF 0 s f) (twL s f) B w →
      Calls Try.prog 251 #[.agg #[chO, .map (some B)], tw s f a' b'] w fun e w' => e = .returned (frV (mT 0 s f a' b')) ∧ memo Try.prog 133 (twF 0 s f) (twL s f) B w' ∧ Bx w.heap.size B w w') :
    Calls Try.prog 251 #[.agg #[chO, .map (some B)], tw s f a b] w fun e w' => e = .returned (frV (mT 0 s f a b)) ∧ memo Try.prog 133 (twF 0 s f) (twL s f) B w' ∧ Bx w.heap.size B w w' := by
  have hlt := hm.lt
  have HT := Aside0.mk hst
  clear hst
  have IH := Aside0.mk ih
  have hsc := @store_func Try.prog (.func 245) #[] #[]
  have HW := Aside0.mk (⟨((hm.alloc (.cells #[chO, .map (some B)] 163)).alloc (.cells #[.int .i64 s, .int .i64 f, .int .i64 a, .int .i64 b] 133)).alloc (.cells #[.int .i64 0, .int .i64 0] 147),
    bx_of (below_alloc (below_alloc (below_alloc (Below.refl w.heap.size w) _) _) _), blk_alloc (blk_alloc (blk_new w _) _) _,
    blk_alloc (by have h := blk_new (w.alloc (.cells #[chO, .map (some B)] 163)) (.cells #[.int .i64 s, .int .i64 f, .int .i64 a, .int .i64 b] 133); rw [World.size_alloc] at h; exact h) _, hlt⟩ :
    Sw 0 s f a b chO B w (((w.alloc (.cells #[chO, .map (some B)] 163)).alloc (.cells #[.int .i64 s, .int .i64 f, .int .i64 a, .int .i64 b] 133)).alloc (.cells #[.int .i64 0, .int .i64 0] 147)))
  have HR := Aside0.mk (by have h := blk_new ((w.alloc (.cells #[chO, .map (some B)] 163)).alloc (.cells #[.int .i64 s, .int .i64 f, .int .i64 a, .int .i64 b] 133)) (.cells #[.int .i64 0, .int .i64 0] 147); rw [World.size_alloc, World.size_alloc] at h; exact h :
    (((w.alloc (.cells #[chO, .map (some B)] 163)).alloc (.cells #[.int .i64 s, .int .i64 f, .int .i64 a, .int .i64 b] 133)).alloc (.cells #[.int .i64 0, .int .i64 0] 147)).heap[w.heap.size + 1 + 1]? = some (.cells #[.int .i64 0, .int .i64 0] 147 (0, 0)))
  clear ih hm
  go_enter Try.func251, Try.ntmps251
  by_cases hd : a = s ∧ b = s
  · have hd1 : (decide (a = s) && decide (b = s)) = true := by simp [hd]
    have hv : mT 0 s f a b = (0, 1) := by
      have hst := HT.out
      unfold stO at hst
      rw [if_pos hd] at hst
      exact (Option.some.inj hst).symm
    have HV := Aside0.mk hv
    clear hv
    clear hd
    go_wp2_with (go_at_call 290; refine (twins_isDone s f a b _).mono ?_; rintro e w4 ⟨rfl, hb4⟩; have n0_ := Aside0.mk (HW.out.below hb4); have n1_ := Aside0.mk (blk_below HR.out hb4); clear HW HR hb4; have HW := n0_; have HR := n1_; clear n0_ n1_; have y0 := (blk_cell HR.out 0).trans rfl; have y1 := (blk_cell HR.out 1).trans rfl; have z0 := blk_frozen HR.out 0; have z1 := blk_frozen HR.out 1)
    refine bodyPost_ret (results_cell_row rfl _ _ (w.heap.size + 1 + 1) 147 #[.int .i64 0, .int .i64 1] (0, 0) _ rfl (blk_put (blk_put HR.out 0 (.int .i64 0) rfl) 1 (.int .i64 1) rfl) Try.underlying147 rfl (by kernel_rfl)) rfl ?_
    have HE := (HW.out.set (show w.heap.size + 2 ≤ w.heap.size + 1 + 1 by omega) 0 (.int .i64 0)).set (show w.heap.size + 2 ≤ w.heap.size + 1 + 1 by omega) 1 (.int .i64 1)
    exact ⟨by rw [HV.out], HE.map, HE.bx⟩
  · have hd1 : (decide (a = s) && decide (b = s)) = false := by simp only [Bool.and_eq_false_iff, decide_eq_false_iff_not]; omega
    obtain ⟨kl, hkl⟩ := tw_key s f a b (WalkArith.wf_i64 (by omega)) (WalkArith.wf_i64 (by omega)) (WalkArith.wf_i64 (by omega)) (WalkArith.wf_i64 (by omega))
    have zE : ∀ w : World, (zeroValue 147).run Try.prog w = .ok (.agg #[.int .i64 0, .int .i64 0]) w := fun w => by kernel_rfl
    have HD := Aside0.mk hd
    have HZ := Aside0.mk zE
    have HK := Aside0.mk hkl
    clear hd zE hkl
    go_wp2_with (first
      | (go_at_call 290; refine (twins_isDone s f a b _).mono ?_; rintro e w4 ⟨rfl, hb4⟩; have n0_ := Aside0.mk (HW.out.below hb4); have n1_ := Aside0.mk (blk_below HR.out hb4); clear HW HR hb4; have HW := n0_; have HR := n1_; clear n0_ n1_; have SV := HW.out.all; have x0 := SV.2.1; have x1 := SV.2.2.1; have x2 := SV.2.2.2.1; have x3 := SV.2.2.2.2.1; have x4 := SV.2.2.2.2.2.1; have x5 := SV.2.2.2.2.2.2; clear SV)
      | (at_lookup; have SV := (HW.out.alloc (.cells #[.int .i64 0, .int .i64 0] 147)).all; have xa0 := SV.2.1; have xa1 := SV.2.2.1; have xa2 := SV.2.2.2.1; have xa3 := SV.2.2.2.2.1; have xa4 := SV.2.2.2.2.2.1; have xa5 := SV.2.2.2.2.2.2; clear SV; have SV := (HW.out.alloc (.cells #[.int .i64 (mT 0 s f a b).1, .int .i64 (mT 0 s f a b).2] 147)).all; have xb0 := SV.2.1; have xb1 := SV.2.2.1; have xb2 := SV.2.2.2.1; have xb3 := SV.2.2.2.2.1; have xb4 := SV.2.2.2.2.2.1; have xb5 := SV.2.2.2.2.2.2; clear SV; have SV := ((HW.out.alloc (.cells #[.int .i64 0, .int .i64 0] 147)).alloc (.cells #[.int .i64 0, .int .i64 0] 147)).all; have xc0 := SV.2.1; have xc1 := SV.2.2.1; have xc2 := SV.2.2.2.1; have xc3 := SV.2.2.2.2.1; have xc4 := SV.2.2.2.2.2.1; have xc5 := SV.2.2.2.2.2.2; clear SV; have SV := ((HW.out.alloc (.cells #[.int .i64 0, .int .i64 0] 147)).alloc (.cells #[.int .i64 f, .int .i64 1] 147)).all; have xd0 := SV.2.1; have xd1 := SV.2.2.1; have xd2 := SV.2.2.2.1; have xd3 := SV.2.2.2.2.1; have xd4 := SV.2.2.2.2.2.1; have xd5 := SV.2.2.2.2.2.2; clear SV; have y0 := (blk_cell (blk_alloc HR.out (.cells #[.int .i64 (mT 0 s f a b).1, .int .i64 (mT 0 s f a b).2] 147)) 0).trans rfl; have y1 := (blk_cell (blk_alloc HR.out (.cells #[.int .i64 (mT 0 s f a b).1, .int .i64 (mT 0 s f a b).2] 147)) 1).trans rfl; have z0 := blk_frozen (blk_alloc HR.out (.cells #[.int .i64 (mT 0 s f a b).1, .int .i64 (mT 0 s f a b).2] 147)) 0; have z1 := blk_frozen (blk_alloc HR.out (.cells #[.int .i64 (mT 0 s f a b).1, .int .i64 (mT 0 s f a b).2] 147)) 1; refine wpList_memo_look _ rfl _ _ 161 rfl 133 147 tw_law Try.underlying161 (HZ.out _) (twF 0 s f) (twL s f) B rfl HW.out.map _ kl rfl HK.out ?_ ?h1; (case h1 => intro v hv; have hv := twF_val hv; subst hv; go_wp2; refine bodyPost_ret (results_cell_row rfl _ _ (w.heap.size + 1 + 1) 147 #[.int .i64 (mT 0 s f a b).1, .int .i64 (mT 0 s f a b).2] (0, 0) _ rfl (blk_put (blk_put (blk_alloc HR.out _) 0 (.int .i64 (mT 0 s f a b).1) rfl) 1 (.int .i64 (mT 0 s f a b).2) rfl) Try.underlying147 rfl (by kernel_rfl)) rfl ?_; have HE := ((HW.out.alloc (.cells #[.int .i64 (mT 0 s f a b).1, .int .i64 (mT 0 s f a b).2] 147)).set (show w.heap.size + 2 ≤ w.heap.size + 1 + 1 by omega) 0 (.int .i64 (mT 0 s f a b).1)).set (show w.heap.size + 2 ≤ w.heap.size + 1 + 1 by omega) 1 (.int .i64 (mT 0 s f a b).2); exact ⟨rfl, HE.map, HE.bx⟩)))
    have hg : w.heap.size + 2 < w4.heap.size := blk_lt HR.out
    have HS := Aside0.mk ((HW.out.alloc (.cells #[.int .i64 0, .int .i64 0] 147)).alloc (.cells #[.int .i64 f, .int .i64 1] 147))
    have HQ := Aside0.mk (by have h := blk_new (w4.alloc (.cells #[.int .i64 0, .int .i64 0] 147)) (.cells #[.int .i64 f, .int .i64 1] 147); rw [World.size_alloc] at h; exact h : ((w4.alloc (.cells #[.int .i64 0, .int .i64 0] 147)).alloc (.cells #[.int .i64 f, .int .i64 1] 147)).heap[w4.heap.size + 1]? = some (.cells #[.int .i64 f, .int .i64 1] 147 (0, 0)))
    have HR := Aside0.mk (blk_alloc (blk_alloc HR.out (.cells #[.int .i64 0, .int .i64 0] 147)) (.cells #[.int .i64 f, .int .i64 1] 147))
    obtain ⟨R, hR, hover⟩ := Option.bind_eq_some_iff.1 (show ((sm 0 s f a b f.toNat 1 (f, 1) 0).bind fun r => impl_fraction_over.f 99 r.1.1 r.1.2 r.2 1) = some (mT 0 s f a b) by have h := HT.out; unfold stO at h; rwa [if_neg HD.out] at h)
    have HO := Aside0.mk hover
    have HA := Aside0.mk hR
    clear hover hR
    go_loopw [8, 9] (fun v8 v9 wr => ∃ (n : Nat) (x m : Int) (q : Int × Int), v8 = .int .i64 m ∧ v9 = .int .i64 x ∧ x + n = f + 1 ∧ 1 ≤ x ∧ 0 ≤ m ∧ m < x ∧ Aside0 (sm 0 s f a b n x q m = some R) ∧ Aside0 (Sw 0 s f a b chO B w wr) ∧ Aside0 (wr.heap[w4.heap.size + 1]? = some (.cells #[.int .i64 q.1, .int .i64 q.2] 147 (0, 0))) ∧ Aside0 (wr.heap[w.heap.size + 1 + 1]? = some (.cells #[.int .i64 0, .int .i64 0] 147 (0, 0)))) (fun _ v _ => (f + 1 - intOf v).toNat)
    case atStart => exact ⟨f.toNat, 1, 0, (f, 1), rfl, rfl, by omega, by omega, by omega, by omega, HA, HS, HQ, HR⟩
    case round =>
      obtain ⟨n, x, m, q, rfl, rfl, hn, hx, hm0, hm1, HA, HS, HQ, HR⟩ := hrel
      have hBl : B < w.heap.size := hlt
      have SV := (HS.out).all
      have xr0 := SV.2.1
      have xr1 := SV.2.2.1
      have xr2 := SV.2.2.2.1
      have xr3 := SV.2.2.2.2.1
      have xr4 := SV.2.2.2.2.2.1
      have xr5 := SV.2.2.2.2.2.2
      clear SV
      have qr0 : wr.cell? ⟨w4.heap.size + 1, 0, none⟩ = some (.int .i64 q.1) := (blk_cell HQ.out 0).trans rfl
      have qr1 : wr.cell? ⟨w4.heap.size + 1, 1, none⟩ = some (.int .i64 q.2) := (blk_cell HQ.out 1).trans rfl
      by_cases hle : x ≤ f
      · obtain ⟨n', rfl⟩ : ∃ n' : Nat, n = n' + 1 := ⟨n - 1, by omega⟩
        have h := HA.out
        rw [sm] at h
        obtain ⟨t, ht, h⟩ := Option.bind_eq_some_iff.1 h
        have sx : IntKind.i64.wrap (x + 1) = x + 1 := IntWalk.i64_in _ (by omega)
        have sm' : IntKind.i64.wrap (m + 1) = m + 1 := IntWalk.i64_in _ (by omega)
        have m1 : -9223372036854775808 ≤ a + x := by omega
        have m2 : a + x ≤ 9223372036854775807 := by omega
        have m3 : -9223372036854775808 ≤ b + x := by omega
        have m4 : b + x ≤ 9223372036854775807 := by omega
        rcases tk_cases ht with rfl | ⟨rfl, hc⟩ | ⟨rfl, hc⟩
        · rw [if_neg (by decide)] at h
          have HA := Aside0.mk h
          have HT2 := Aside0.mk ht
          clear h ht
          go_wp2_with (go_at_call 256; refine (choice_0 s f B a b x (-1) _ hs hf ha hb ⟨hx, hle⟩ HS.out.map HT2.out IH.out).mono ?_; rintro e w6 ⟨rfl, hm6, hb6⟩; have n0_ := Aside0.mk (HS.out.mean hm6 hb6); have n1_ := Aside0.mk (blk_bx HQ.out hb6 (by omega)); have n2_ := Aside0.mk (blk_bx HR.out hb6 (by omega)); clear HS HQ HR hm6 hb6; have HS := n0_; have HQ := n1_; have HR := n2_; clear n0_ n1_ n2_)
          exact ⟨⟨n', x + 1, m, q, rfl, rfl, by omega, by omega, by omega, by omega, HA, HS, HQ, HR⟩, by simp [intOf]; omega⟩
        · rw [if_pos (by decide)] at h
          simp only [if_true, ite_true] at h
          obtain ⟨r, hr, h⟩ := Option.bind_eq_some_iff.1 h
          have HA := Aside0.mk h
          have HT2 := Aside0.mk ht
          have HP := Aside0.mk hr
          clear h ht hr
          go_wp2_with (go_at_call 256; refine (choice_0 s f B a b x 0 _ hs hf ha hb ⟨hx, hle⟩ HS.out.map HT2.out IH.out).mono ?_; rintro e w6 ⟨rfl, hm6, hb6⟩; have n0_ := Aside0.mk (HS.out.mean hm6 hb6); have n1_ := Aside0.mk (blk_bx HQ.out hb6 (by omega)); have n2_ := Aside0.mk (blk_bx HR.out hb6 (by omega)); clear HS HQ HR hm6 hb6; have HS := n0_; have HQ := n1_; have HR := n2_; clear n0_ n1_ n2_; have q60 : w6.cell? ⟨w4.heap.size + 1, 0, none⟩ = some (.int .i64 q.1) := (blk_cell HQ.out 0).trans rfl; have q61 : w6.cell? ⟨w4.heap.size + 1, 1, none⟩ = some (.int .i64 q.2) := (blk_cell HQ.out 1).trans rfl; have SV := (HS.out).all; have xe0 := SV.2.1; have xe1 := SV.2.2.1; have xe2 := SV.2.2.2.1; have xe3 := SV.2.2.2.2.1; have xe4 := SV.2.2.2.2.2.1; have xe5 := SV.2.2.2.2.2.2; clear SV)
          refine start_ (n := 9) (S := fun W => Sv 0 s f a b chO B w W ∧ W.cell? ⟨w4.heap.size + 1, 0, none⟩ = some (.int .i64 q.1) ∧ W.cell? ⟨w4.heap.size + 1, 1, none⟩ = some (.int .i64 q.2)) (ds := [8]) #[false, false, false, false, false, false, false, false, false] (by kernel_rfl) rfl rfl ⟨HS.out.drew.all, (blk_cell (blk_drew HQ.out) 0).trans rfl, (blk_cell (blk_drew HQ.out) 1).trans rfl⟩ (fun hHeld => ?_)
          refine pure_ (i := 3) (N := some 42) (v := ?_) (a' := ?_) #[false, false, false, true, false, false, false, false, false] rfl rfl (by kernel_rfl) (fun _ _ _ h => h) (Or.inl ⟨by rfl, ?_⟩) ?_ ?_
          rotate_left
          · intro w'
            go_simp
            with_reducible rfl
          rotate_left
          · simp only [Act.put, List.setIfInBounds_toArray, List.set_cons_zero, List.set_cons_succ, i64_w, i32_w]
            rfl
          refine pure_ (i := 4) (N := some 43) (v := ?_) (a' := ?_) #[false, false, false, true, true, false, false, false, false] rfl rfl (by kernel_rfl) (fun _ _ _ h => h) (Or.inl ⟨by rfl, ?_⟩) ?_ ?_
          rotate_left
          · intro w'
            go_simp
            with_reducible rfl
          rotate_left
          · simp only [Act.put, List.setIfInBounds_toArray, List.set_cons_zero, List.set_cons_succ, i64_w, i32_w]
            rfl
          refine take_ (i := 0) (N := some 39) (v := ?_) (a' := ?_) #[true, false, false, true, true, false, false, false, false] rfl rfl (by kernel_rfl) (fun _ _ _ h => h) (Or.inl ⟨by rfl, ?_⟩) hHeld ?_ ?_
          rotate_left
          · rintro w' ⟨⟨_, s0, s1, s2, s3, s4, s5⟩, s6, s7⟩
            go_simp
            with_reducible rfl
          rotate_left
          · simp only [Act.put, List.setIfInBounds_toArray, List.set_cons_zero, List.set_cons_succ, i64_w, i32_w]
            rfl
          refine take_ (i := 1) (N := some 40) (v := ?_) (a' := ?_) #[true, true, false, true, true, false, false, false, false] rfl rfl (by kernel_rfl) (fun _ _ _ h => h) (Or.inl ⟨by rfl, ?_⟩) hHeld ?_ ?_
          rotate_left
          · rintro w' ⟨⟨_, s0, s1, s2, s3, s4, s5⟩, s6, s7⟩
            go_simp
            with_reducible rfl
          rotate_left
          · simp only [Act.put, List.setIfInBounds_toArray, List.set_cons_zero, List.set_cons_succ, i64_w, i32_w]
            rfl
          refine take_ (i := 2) (N := some 41) (v := ?_) (a' := ?_) #[true, true, true, true, true, false, false, false, false] rfl rfl (by kernel_rfl) (fun _ _ _ h => h) (Or.inl ⟨by rfl, ?_⟩) hHeld ?_ ?_
          rotate_left
          · rintro w' ⟨⟨_, s0, s1, s2, s3, s4, s5⟩, s6, s7⟩
            go_simp
            with_reducible rfl
          rotate_left
          · simp only [Act.put, List.setIfInBounds_toArray, List.set_cons_zero, List.set_cons_succ, i64_w, i32_w]
            rfl
          refine one_ (i := 5) (N := some 44) #[true, true, true, true, true, true, false, false, false] rfl rfl (by kernel_rfl) (by decide) (fun K hK => ?_)
          refine goes_ Try.func252 (by kernel_rfl) rfl #[tw s f a b, .int .i64 0, .int .i64 x] (by rfl) rfl rfl (by (try simp only [List.map_toArray, List.map_cons, List.map_nil]); first | done | rfl) ?_
          with_reducible refine (twins_moved0 s f a b x m1 m2 m3 m4 _).mono ?_
          rintro e w7 ⟨rfl, hb7⟩
          have HQ7 := Aside0.mk (blk_below (blk_drew HQ.out) hb7)
          refine ⟨_, rfl, ?_⟩
          refine hK.out _ _ ⟨(HS.out.drew.below hb7).all, (blk_cell HQ7.out 0).trans rfl, (blk_cell HQ7.out 1).trans rfl⟩ (fun hHeld => ?_)
          clear hK K
          refine norm_ (a' := ?_) ?_ ?_
          rotate_left
          · show Act.put _ (some 44) _ = _
            simp only [Act.put, List.setIfInBounds_toArray, List.set_cons_zero, List.set_cons_succ, i64_w, i32_w]
            rfl
          refine one_ (i := 6) (N := some 45) #[true, true, true, true, true, true, true, false, false] rfl rfl (by kernel_rfl) (by decide) (fun K hK => ?_)
          refine goes_ Try.func251 (by kernel_rfl) rfl #[.agg #[chO, .map (some B)], tw s f (a + x) b] (by rfl) rfl rfl (by (try simp only [List.map_toArray, List.map_cons, List.map_nil]); first | done | rfl) ?_
          with_reducible refine (IH.out (a + x) b _ ⟨by omega, hc⟩ hb (by omega) (HS.out.drew.below hb7).map).mono ?_
          rintro e w8 ⟨rfl, hm8, hb8⟩
          have HQ8 := Aside0.mk (blk_bx HQ7.out hb8 (by omega))
          refine ⟨_, rfl, ?_⟩
          refine hK.out _ _ ⟨((HS.out.drew.below hb7).mean hm8 hb8).all, (blk_cell HQ8.out 0).trans rfl, (blk_cell HQ8.out 1).trans rfl⟩ (fun hHeld => ?_)
          clear hK K
          refine norm_ (a' := ?_) ?_ ?_
          rotate_left
          · show Act.put _ (some 45) _ = _
            simp only [Act.put, List.setIfInBounds_toArray, List.set_cons_zero, List.set_cons_succ, i64_w, i32_w]
            rfl
          refine one_ (i := 7) (N := some 46) #[true, true, true, true, true, true, true, true, false] rfl rfl (by kernel_rfl) (by decide) (fun K hK => ?_)
          refine goes_ Try.func219 (by kernel_rfl) rfl #[.agg #[.int .i64 q.1, .int .i64 q.2], frV (mT 0 s f (a + x) b)] (by rfl) rfl rfl (by (try simp only [List.map_toArray, List.map_cons, List.map_nil]); first | done | rfl) ?_
          with_reducible refine (impl_fraction_plus.calls 99 q.1 q.2 _ _ r.1 r.2 _ HP.out).mono ?_
          rintro e w9 ⟨rfl, hb9⟩
          have HQ9 := Aside0.mk (blk_below HQ8.out hb9)
          refine ⟨_, rfl, ?_⟩
          refine hK.out _ _ ⟨(((HS.out.drew.below hb7).mean hm8 hb8).below hb9).all, (blk_cell HQ9.out 0).trans rfl, (blk_cell HQ9.out 1).trans rfl⟩ (fun hHeld => ?_)
          clear hK K
          refine norm_ (a' := ?_) ?_ ?_
          rotate_left
          · show Act.put _ (some 46) _ = _
            simp only [Act.put, List.setIfInBounds_toArray, List.set_cons_zero, List.set_cons_succ, i64_w, i32_w]
            rfl
          refine last_ (i := 8) (N := none) #[true, true, true, true, true, true, true, true, true] rfl rfl (by kernel_rfl) (by decide) (fun K hK => ?_)
          have hs0 := hHeld.2.1
          have hs1 := hHeld.2.2
          have hf0 := blk_frozen HQ9.out 0
          have hf1 := blk_frozen HQ9.out 1
          refine skip_ (w1 := ?_) (by rfl) rfl ?_ ?_
          rotate_left
          · go_simp
            rfl
          refine hK.out _ _ ?_
          clear hK K
          refine done_ (by kernel_rfl) ?_
          try go_wp2
          exact ⟨⟨n', x + 1, m + 1, r, rfl, rfl, by omega, by omega, by omega, by omega, HA, ⟨((((HS.out.drew.below hb7).mean hm8 hb8).below hb9).set (show w.heap.size + 2 ≤ w4.heap.size + 1 by omega) 0 (.int .i64 r.1)).set (show w.heap.size + 2 ≤ w4.heap.size + 1 by omega) 1 (.int .i64 r.2)⟩, ⟨blk_put (blk_put HQ9.out 0 (.int .i64 r.1) rfl) 1 (.int .i64 r.2) rfl⟩, ⟨(Below.heap_setCell _ _ _ _ (show w.heap.size + 1 + 1 ≠ w4.heap.size + 1 by omega)).trans ((Below.heap_setCell _ _ _ _ (show w.heap.size + 1 + 1 ≠ w4.heap.size + 1 by omega)).trans (blk_below (blk_bx (blk_below (blk_drew HR.out) hb7) hb8 (by omega)) hb9))⟩⟩, by simp [intOf]; omega⟩
        · rw [if_pos (by decide)] at h
          simp only [if_neg (show ¬ (1:Int) = 0 by decide)] at h
          obtain ⟨r, hr, h⟩ := Option.bind_eq_some_iff.1 h
          have HA := Aside0.mk h
          have HT2 := Aside0.mk ht
          have HP := Aside0.mk hr
          clear h ht hr
          go_wp2_with (go_at_call 256; refine (choice_0 s f B a b x 1 _ hs hf ha hb ⟨hx, hle⟩ HS.out.map HT2.out IH.out).mono ?_; rintro e w6 ⟨rfl, hm6, hb6⟩; have n0_ := Aside0.mk (HS.out.mean hm6 hb6); have n1_ := Aside0.mk (blk_bx HQ.out hb6 (by omega)); have n2_ := Aside0.mk (blk_bx HR.out hb6 (by omega)); clear HS HQ HR hm6 hb6; have HS := n0_; have HQ := n1_; have HR := n2_; clear n0_ n1_ n2_; have q60 : w6.cell? ⟨w4.heap.size + 1, 0, none⟩ = some (.int .i64 q.1) := (blk_cell HQ.out 0).trans rfl; have q61 : w6.cell? ⟨w4.heap.size + 1, 1, none⟩ = some (.int .i64 q.2) := (blk_cell HQ.out 1).trans rfl; have SV := (HS.out).all; have xe0 := SV.2.1; have xe1 := SV.2.2.1; have xe2 := SV.2.2.2.1; have xe3 := SV.2.2.2.2.1; have xe4 := SV.2.2.2.2.2.1; have xe5 := SV.2.2.2.2.2.2; clear SV)
          refine start_ (n := 9) (S := fun W => Sv 0 s f a b chO B w W ∧ W.cell? ⟨w4.heap.size + 1, 0, none⟩ = some (.int .i64 q.1) ∧ W.cell? ⟨w4.heap.size + 1, 1, none⟩ = some (.int .i64 q.2)) (ds := [8]) #[false, false, false, false, false, false, false, false, false] (by kernel_rfl) rfl rfl ⟨HS.out.drew.all, (blk_cell (blk_drew HQ.out) 0).trans rfl, (blk_cell (blk_drew HQ.out) 1).trans rfl⟩ (fun hHeld => ?_)
          refine pure_ (i := 3) (N := some 42) (v := ?_) (a' := ?_) #[false, false, false, true, false, false, false, false, false] rfl rfl (by kernel_rfl) (fun _ _ _ h => h) (Or.inl ⟨by rfl, ?_⟩) ?_ ?_
          rotate_left
          · intro w'
            go_simp
            with_reducible rfl
          rotate_left
          · simp only [Act.put, List.setIfInBounds_toArray, List.set_cons_zero, List.set_cons_succ, i64_w, i32_w]
            rfl
          refine pure_ (i := 4) (N := some 43) (v := ?_) (a' := ?_) #[false, false, false, true, true, false, false, false, false] rfl rfl (by kernel_rfl) (fun _ _ _ h => h) (Or.inl ⟨by rfl, ?_⟩) ?_ ?_
          rotate_left
          · intro w'
            go_simp
            with_reducible rfl
          rotate_left
          · simp only [Act.put, List.setIfInBounds_toArray, List.set_cons_zero, List.set_cons_succ, i64_w, i32_w]
            rfl
          refine take_ (i := 0) (N := some 39) (v := ?_) (a' := ?_) #[true, false, false, true, true, false, false, false, false] rfl rfl (by kernel_rfl) (fun _ _ _ h => h) (Or.inl ⟨by rfl, ?_⟩) hHeld ?_ ?_
          rotate_left
          · rintro w' ⟨⟨_, s0, s1, s2, s3, s4, s5⟩, s6, s7⟩
            go_simp
            with_reducible rfl
          rotate_left
          · simp only [Act.put, List.setIfInBounds_toArray, List.set_cons_zero, List.set_cons_succ, i64_w, i32_w]
            rfl
          refine take_ (i := 1) (N := some 40) (v := ?_) (a' := ?_) #[true, true, false, true, true, false, false, false, false] rfl rfl (by kernel_rfl) (fun _ _ _ h => h) (Or.inl ⟨by rfl, ?_⟩) hHeld ?_ ?_
          rotate_left
          · rintro w' ⟨⟨_, s0, s1, s2, s3, s4, s5⟩, s6, s7⟩
            go_simp
            with_reducible rfl
          rotate_left
          · simp only [Act.put, List.setIfInBounds_toArray, List.set_cons_zero, List.set_cons_succ, i64_w, i32_w]
            rfl
          refine take_ (i := 2) (N := some 41) (v := ?_) (a' := ?_) #[true, true, true, true, true, false, false, false, false] rfl rfl (by kernel_rfl) (fun _ _ _ h => h) (Or.inl ⟨by rfl, ?_⟩) hHeld ?_ ?_
          rotate_left
          · rintro w' ⟨⟨_, s0, s1, s2, s3, s4, s5⟩, s6, s7⟩
            go_simp
            with_reducible rfl
          rotate_left
          · simp only [Act.put, List.setIfInBounds_toArray, List.set_cons_zero, List.set_cons_succ, i64_w, i32_w]
            rfl
          refine one_ (i := 5) (N := some 44) #[true, true, true, true, true, true, false, false, false] rfl rfl (by kernel_rfl) (by decide) (fun K hK => ?_)
          refine goes_ Try.func252 (by kernel_rfl) rfl #[tw s f a b, .int .i64 1, .int .i64 x] (by rfl) rfl rfl (by (try simp only [List.map_toArray, List.map_cons, List.map_nil]); first | done | rfl) ?_
          with_reducible refine (twins_moved1 s f a b x m1 m2 m3 m4 _).mono ?_
          rintro e w7 ⟨rfl, hb7⟩
          have HQ7 := Aside0.mk (blk_below (blk_drew HQ.out) hb7)
          refine ⟨_, rfl, ?_⟩
          refine hK.out _ _ ⟨(HS.out.drew.below hb7).all, (blk_cell HQ7.out 0).trans rfl, (blk_cell HQ7.out 1).trans rfl⟩ (fun hHeld => ?_)
          clear hK K
          refine norm_ (a' := ?_) ?_ ?_
          rotate_left
          · show Act.put _ (some 44) _ = _
            simp only [Act.put, List.setIfInBounds_toArray, List.set_cons_zero, List.set_cons_succ, i64_w, i32_w]
            rfl
          refine one_ (i := 6) (N := some 45) #[true, true, true, true, true, true, true, false, false] rfl rfl (by kernel_rfl) (by decide) (fun K hK => ?_)
          refine goes_ Try.func251 (by kernel_rfl) rfl #[.agg #[chO, .map (some B)], tw s f a (b + x)] (by rfl) rfl rfl (by (try simp only [List.map_toArray, List.map_cons, List.map_nil]); first | done | rfl) ?_
          with_reducible refine (IH.out a (b + x) _ ha ⟨by omega, hc⟩ (by omega) (HS.out.drew.below hb7).map).mono ?_
          rintro e w8 ⟨rfl, hm8, hb8⟩
          have HQ8 := Aside0.mk (blk_bx HQ7.out hb8 (by omega))
          refine ⟨_, rfl, ?_⟩
          refine hK.out _ _ ⟨((HS.out.drew.below hb7).mean hm8 hb8).all, (blk_cell HQ8.out 0).trans rfl, (blk_cell HQ8.out 1).trans rfl⟩ (fun hHeld => ?_)
          clear hK K
          refine norm_ (a' := ?_) ?_ ?_
          rotate_left
          · show Act.put _ (some 45) _ = _
            simp only [Act.put, List.setIfInBounds_toArray, List.set_cons_zero, List.set_cons_succ, i64_w, i32_w]
            rfl
          refine one_ (i := 7) (N := some 46) #[true, true, true, true, true, true, true, true, false] rfl rfl (by kernel_rfl) (by decide) (fun K hK => ?_)
          refine goes_ Try.func219 (by kernel_rfl) rfl #[.agg #[.int .i64 q.1, .int .i64 q.2], frV (mT 0 s f a (b + x))] (by rfl) rfl rfl (by (try simp only [List.map_toArray, List.map_cons, List.map_nil]); first | done | rfl) ?_
          with_reducible refine (impl_fraction_plus.calls 99 q.1 q.2 _ _ r.1 r.2 _ HP.out).mono ?_
          rintro e w9 ⟨rfl, hb9⟩
          have HQ9 := Aside0.mk (blk_below HQ8.out hb9)
          refine ⟨_, rfl, ?_⟩
          refine hK.out _ _ ⟨(((HS.out.drew.below hb7).mean hm8 hb8).below hb9).all, (blk_cell HQ9.out 0).trans rfl, (blk_cell HQ9.out 1).trans rfl⟩ (fun hHeld => ?_)
          clear hK K
          refine norm_ (a' := ?_) ?_ ?_
          rotate_left
          · show Act.put _ (some 46) _ = _
            simp only [Act.put, List.setIfInBounds_toArray, List.set_cons_zero, List.set_cons_succ, i64_w, i32_w]
            rfl
          refine last_ (i := 8) (N := none) #[true, true, true, true, true, true, true, true, true] rfl rfl (by kernel_rfl) (by decide) (fun K hK => ?_)
          have hs0 := hHeld.2.1
          have hs1 := hHeld.2.2
          have hf0 := blk_frozen HQ9.out 0
          have hf1 := blk_frozen HQ9.out 1
          refine skip_ (w1 := ?_) (by rfl) rfl ?_ ?_
          rotate_left
          · go_simp
            rfl
          refine hK.out _ _ ?_
          clear hK K
          refine done_ (by kernel_rfl) ?_
          try go_wp2
          exact ⟨⟨n', x + 1, m + 1, r, rfl, rfl, by omega, by omega, by omega, by omega, HA, ⟨((((HS.out.drew.below hb7).mean hm8 hb8).below hb9).set (show w.heap.size + 2 ≤ w4.heap.size + 1 by omega) 0 (.int .i64 r.1)).set (show w.heap.size + 2 ≤ w4.heap.size + 1 by omega) 1 (.int .i64 r.2)⟩, ⟨blk_put (blk_put HQ9.out 0 (.int .i64 r.1) rfl) 1 (.int .i64 r.2) rfl⟩, ⟨(Below.heap_setCell _ _ _ _ (show w.heap.size + 1 + 1 ≠ w4.heap.size + 1 by omega)).trans ((Below.heap_setCell _ _ _ _ (show w.heap.size + 1 + 1 ≠ w4.heap.size + 1 by omega)).trans (blk_below (blk_bx (blk_below (blk_drew HR.out) hb7) hb8 (by omega)) hb9))⟩⟩, by simp [intOf]; omega⟩
      · obtain rfl : n = 0 := by omega
        have h := HA.out
        rw [sm] at h
        obtain rfl := Option.some.inj h
        have HV := Aside0.mk (show impl_fraction_over.f 99 q.1 q.2 m 1 = some ((mT 0 s f a b).1, (mT 0 s f a b).2) from HO.out)
        have HL := Aside0.mk (twL_len (f := f) hs)
        clear h
        go_wp2_with (first
          | (go_at_call 291; (with_reducible refine (impl_fraction_over.calls 99 q.1 q.2 m 1 _ _ _ HV.out).mono ?_); rintro e w6 ⟨rfl, hb6⟩; have HS6 := Aside0.mk ((HS.out.below hb6).alloc (.cells #[.int .i64 (mT 0 s f a b).1, .int .i64 (mT 0 s f a b).2] 147)); have HR6 := Aside0.mk (blk_alloc (blk_below HR.out hb6) (.cells #[.int .i64 (mT 0 s f a b).1, .int .i64 (mT 0 s f a b).2] 147)); have HT6 := Aside0.mk (blk_new w6 (.cells #[.int .i64 (mT 0 s f a b).1, .int .i64 (mT 0 s f a b).2] 147)); have SV := (HS6.out).all; have xf0 := SV.2.1; have xf1 := SV.2.2.1; have xf2 := SV.2.2.2.1; have xf3 := SV.2.2.2.2.1; have xf4 := SV.2.2.2.2.2.1; have xf5 := SV.2.2.2.2.2.2; clear SV; have t6c0 := (blk_cell HT6.out 0).trans rfl; have t6f0 := blk_frozen HT6.out 0; have t6c1 := (blk_cell HT6.out 1).trans rfl; have t6f1 := blk_frozen HT6.out 1)
          | (at_mapUpdate; refine wpList_memo_put _ rfl _ _ _ 161 rfl 133 147 tw_law Try.underlying161 (twF 0 s f) (twL s f) B HL.out rfl HS6.out.map _ _ kl rfl rfl HK.out ⟨a, b, ha.1, ha.2, hb.1, hb.2, rfl, rfl⟩ (twL_mem ha hb) ?_; intro w8 hm8 hg8; have HX := (Bx.refl (w6.alloc (.cells #[.int .i64 (mT 0 s f a b).1, .int .i64 (mT 0 s f a b).2] 147)).heap.size B (w6.alloc (.cells #[.int .i64 (mT 0 s f a b).1, .int .i64 (mT 0 s f a b).2] 147))).grown hg8 (Nat.le_refl _); have HS8 := Aside0.mk (HS6.out.mean hm8 HX); have HR8 := Aside0.mk (blk_bx HR6.out HX (by omega)); have HT8 := Aside0.mk (blk_bx HT6.out HX (by have := hb6.size; have := blk_lt HQ.out; omega)); clear HX hm8 hg8; have t8c0 := (blk_cell HT8.out 0).trans rfl; have t8f0 := blk_frozen HT8.out 0; have t8c1 := (blk_cell HT8.out 1).trans rfl; have t8f1 := blk_frozen HT8.out 1; have r8c0 := (blk_cell HR8.out 0).trans rfl; have r8f0 := blk_frozen HR8.out 0; have r8c1 := (blk_cell HR8.out 1).trans rfl; have r8f1 := blk_frozen HR8.out 1))
        refine bodyPost_ret (results_cell_row rfl _ _ (w.heap.size + 1 + 1) 147 #[.int .i64 (mT 0 s f a b).1, .int .i64 (mT 0 s f a b).2] (0, 0) _ rfl (blk_put (blk_put HR8.out 0 (.int .i64 (mT 0 s f a b).1) rfl) 1 (.int .i64 (mT 0 s f a b).2) rfl) Try.underlying147 rfl (by kernel_rfl)) rfl ?_
        have HE := (HS8.out.set (show w.heap.size + 2 ≤ w.heap.size + 1 + 1 by omega) 0 (.int .i64 (mT 0 s f a b).1)).set (show w.heap.size + 2 ≤ w.heap.size + 1 + 1 by omega) 1 (.int .i64 (mT 0 s f a b).2)
        exact ⟨rfl, HE.map, HE.bx⟩
end Go.Proofs.Ytgahigmpcgfbeaa.P
end

section
namespace Go.Proofs.Ytgahigmpcgfbeaa.P
set_option linter.unusedVariables false
set_option linter.unusedSimpArgs false
open Go.RowKit Go.Proofs.YtgahigmpcgfbeaaW.PrintWords Go.Proofs.YtgahigmpcgfbeaaW.PrintLast Go.Proofs.YtgahigmpcgfbeaaW.PrintMore
def stAll (ru : Nat) : Bool := (List.range 6).all fun s => (List.range 4).all fun f => (List.range (s + 2)).all fun a => (List.range (s + 2)).all fun b =>
  stO ru ((s + 1 : Nat) : Int) ((f + 1 : Nat) : Int) (a : Int) (b : Int) == some (mT ru ((s + 1 : Nat) : Int) ((f + 1 : Nat) : Int) (a : Int) (b : Int))
theorem stAll_spec {ru : Nat} (h : stAll ru = true) {s f a b : Int} (hs : 1 ≤ s ∧ s ≤ 6) (hf : 1 ≤ f ∧ f ≤ 4) (ha : 0 ≤ a ∧ a ≤ s) (hb : 0 ≤ b ∧ b ≤ s) : stO ru s f a b = some (mT ru s f a b) := by
  unfold stAll at h
  have h1 := List.all_eq_true.1 h (s.toNat - 1) (List.mem_range.2 (by omega))
  have h2 := List.all_eq_true.1 h1 (f.toNat - 1) (List.mem_range.2 (by omega))
  have h3 := List.all_eq_true.1 h2 a.toNat (List.mem_range.2 (by omega))
  have h4 := List.all_eq_true.1 h3 b.toNat (List.mem_range.2 (by omega))
  have h5 := eq_of_beq h4
  have e1 : ((s.toNat - 1 + 1 : Nat) : Int) = s := by omega
  have e2 : ((f.toNat - 1 + 1 : Nat) : Int) = f := by omega
  have e3 : (a.toNat : Int) = a := by omega
  have e4 : (b.toNat : Int) = b := by omega
  rw [e1, e2, e3, e4] at h5
  exact h5
theorem stAll_0 : stAll 0 = true := by decide +kernel
theorem mean_0 {s f : Int} (B : Nat) (hs : 1 ≤ s ∧ s ≤ 6) (hf : 1 ≤ f ∧ f ≤ 4) : ∀ (p : Nat) (a b : Int) (w : World), 0 ≤ a ∧ a ≤ s → 0 ≤ b ∧ b ≤ s → 2 * s - a - b ≤ p → memo Try.prog 133 (twF 0 s f) (twL s f) B w →
    Calls Try.prog 251 #[.agg #[chO, .map (some B)], tw s f a b] w fun e w' => e = .returned (frV (mT 0 s f a b)) ∧ memo Try.prog 133 (twF 0 s f) (twL s f) B w' ∧ Bx w.heap.size B w w'
  | 0, a, b, w, ha, hb, hp, hm => mean_step_0 s f B a b w hs hf ha hb hm (stAll_spec stAll_0 hs hf ha hb) (fun a' b' w' ha' hb' h _ => by omega)
  | p + 1, a, b, w, ha, hb, hp, hm => mean_step_0 s f B a b w hs hf ha hb hm (stAll_spec stAll_0 hs hf ha hb) (fun a' b' w' ha' hb' h hm' => mean_0 B hs hf p a' b' w' ha' hb' (by omega) hm')
end Go.Proofs.Ytgahigmpcgfbeaa.P
end

section
namespace Go.Proofs.Ytgahigmpcgfbeaa.P
open Go.RowKit Go.Proofs.YtgahigmpcgfbeaaW.PrintWords Go.Proofs.YtgahigmpcgfbeaaW.PrintLast Go.Proofs.YtgahigmpcgfbeaaW.PrintMore
attribute [local go_sem] max2_int min2_int max_two min_two max_three min_three max_four min_four
set_option linter.unusedVariables false
set_option linter.unusedSimpArgs false
def impl_fraction_told.f (a0_0 : Int) (a0_1 : Int) : Option (Int × Int × Bool) := some (a0_0, a0_1, true)
set_option maxHeartbeats 8000000 in
set_option maxRecDepth 100000 in
theorem impl_fraction_told.calls (a0_0 : Int) (a0_1 : Int) (r1 : Int) (r2 : Int) (r3 : Bool) (w : World) (h : impl_fraction_told.f a0_0 a0_1 = some (r1, r2, r3)) :
    Calls Try.prog 221 #[.agg #[.int .i64 a0_0, .int .i64 a0_1]] w fun e w' => e = .returned (.tuple #[.int .i64 r1, .int .i64 r2, .bool r3]) ∧ Below w.heap.size w w' := by
  have hu147 := Try.underlying147
  have HB := Aside0.mk (Below.refl w.heap.size w)
  have H : (some (a0_0, a0_1, true)) = some (r1, r2, r3) := h
  clear h
  simp only [Option.some.injEq, Prod.mk.injEq] at H
  obtain ⟨rfl, rfl, rfl⟩ := H
  go_enter Try.func221, Try.ntmps221
  go_wp2_with (first | ((with_reducible refine gate_dst (N := 1) rfl ?_); refine box_event ?hg (N := 1) ?hd (cs := #[.int .i64 a0_0, .int .i64 a0_1]) (t := 147) ?hr ?_; (case hd => rfl); (case hg => rfl); (case hr => first | (go_simp; done) | (go_simp; rfl)); intro gb1265 hg w2 hbox hb; have n0_ := Aside0.mk (below_step (by repeat (first | (with_reducible first | exact HB.out | apply below_alloc | apply pw_below_drewN | apply below_drew1) | exact HB.out)) hb); have n1_ := Aside0.mk (hbox); have n2_ := Aside0.mk ((by rw [hg]; exact (below_size (by repeat (first | (with_reducible first | exact HB.out | apply below_alloc | apply pw_below_drewN | apply below_drew1) | exact HB.out))) : w.heap.size ≤ gb1265)); have n3_ := Aside0.mk ((by rw [hg]; exact (below_size (by repeat (first | (with_reducible first | exact HB.out | apply below_alloc | apply pw_below_drewN | apply below_drew1) | exact HB.out))) : w.heap.size ≤ gb1265)); clear HB; have HB := n0_; have BK1265 := n1_; have GW1265 := n2_; have GE1265 := n3_; clear n0_ n1_ n2_ n3_; clear hb hbox hg; have hcz3_0 : w2.cell? ⟨gb1265, 0, none⟩ = some (.int .i64 a0_0) := (blk_cell BK1265.out 0).trans rfl; have hcz3_1 : w2.cell? ⟨gb1265, 1, none⟩ = some (.int .i64 a0_1) := (blk_cell BK1265.out 1).trans rfl; have hfz3_0 := blk_frozen BK1265.out 0; have hfz3_1 := blk_frozen BK1265.out 1))
  repeat (go_quiet (first | ((with_reducible refine gate_dst (N := 1) rfl ?_); refine box_event ?hg (N := 1) ?hd (cs := #[.int .i64 a0_0, .int .i64 a0_1]) (t := 147) ?hr ?_; (case hd => rfl); (case hg => rfl); (case hr => first | (go_simp; done) | (go_simp; rfl)); intro gb1265 hg w2 hbox hb; have n0_ := Aside0.mk (below_step (by repeat (first | (with_reducible first | exact HB.out | apply below_alloc | apply pw_below_drewN | apply below_drew1) | exact HB.out)) hb); have n1_ := Aside0.mk (hbox); have n2_ := Aside0.mk ((by rw [hg]; exact (below_size (by repeat (first | (with_reducible first | exact HB.out | apply below_alloc | apply pw_below_drewN | apply below_drew1) | exact HB.out))) : w.heap.size ≤ gb1265)); have n3_ := Aside0.mk ((by rw [hg]; exact (below_size (by repeat (first | (with_reducible first | exact HB.out | apply below_alloc | apply pw_below_drewN | apply below_drew1) | exact HB.out))) : w.heap.size ≤ gb1265)); clear HB; have HB := n0_; have BK1265 := n1_; have GW1265 := n2_; have GE1265 := n3_; clear n0_ n1_ n2_ n3_; clear hb hbox hg; have hcz3_0 : w2.cell? ⟨gb1265, 0, none⟩ = some (.int .i64 a0_0) := (blk_cell BK1265.out 0).trans rfl; have hcz3_1 : w2.cell? ⟨gb1265, 1, none⟩ = some (.int .i64 a0_1) := (blk_cell BK1265.out 1).trans rfl; have hfz3_0 := blk_frozen BK1265.out 0; have hfz3_1 := blk_frozen BK1265.out 1)); try go_wp2_with (first | ((with_reducible refine gate_dst (N := 1) rfl ?_); refine box_event ?hg (N := 1) ?hd (cs := #[.int .i64 a0_0, .int .i64 a0_1]) (t := 147) ?hr ?_; (case hd => rfl); (case hg => rfl); (case hr => first | (go_simp; done) | (go_simp; rfl)); intro gb1265 hg w2 hbox hb; have n0_ := Aside0.mk (below_step (by repeat (first | (with_reducible first | exact HB.out | apply below_alloc | apply pw_below_drewN | apply below_drew1) | exact HB.out)) hb); have n1_ := Aside0.mk (hbox); have n2_ := Aside0.mk ((by rw [hg]; exact (below_size (by repeat (first | (with_reducible first | exact HB.out | apply below_alloc | apply pw_below_drewN | apply below_drew1) | exact HB.out))) : w.heap.size ≤ gb1265)); have n3_ := Aside0.mk ((by rw [hg]; exact (below_size (by repeat (first | (with_reducible first | exact HB.out | apply below_alloc | apply pw_below_drewN | apply below_drew1) | exact HB.out))) : w.heap.size ≤ gb1265)); clear HB; have HB := n0_; have BK1265 := n1_; have GW1265 := n2_; have GE1265 := n3_; clear n0_ n1_ n2_ n3_; clear hb hbox hg; have hcz3_0 : w2.cell? ⟨gb1265, 0, none⟩ = some (.int .i64 a0_0) := (blk_cell BK1265.out 0).trans rfl; have hcz3_1 : w2.cell? ⟨gb1265, 1, none⟩ = some (.int .i64 a0_1) := (blk_cell BK1265.out 1).trans rfl; have hfz3_0 := blk_frozen BK1265.out 0; have hfz3_1 := blk_frozen BK1265.out 1)))
  go_ret3
  exact ⟨by first | rfl | (simp [errW_none, errW_some] <;> rfl) | (simp [*, errW_none, errW_some] <;> rfl), by repeat (first | (with_reducible first | exact HB.out | apply below_alloc | apply pw_below_drewN | apply below_drew1 | refine below_set ?_ GE1265.out) | exact HB.out)⟩
end Go.Proofs.Ytgahigmpcgfbeaa.P
end

section
namespace Go.Proofs.Ytgahigmpcgfbeaa.P
set_option linter.unusedVariables false
set_option linter.unusedSimpArgs false
open Go.RowKit Go.Proofs.YtgahigmpcgfbeaaW.PrintWords Go.Proofs.YtgahigmpcgfbeaaW.PrintLast Go.Proofs.YtgahigmpcgfbeaaW.PrintMore
attribute [local go_sem] max2_int min2_int max_two min_two max_three min_three max_four min_four
def prG (s f a b : Int) : Bool := inn s 1 6 && inn f 1 4 && inn a 0 s && inn b 0 s
theorem prG_iff {s f a b : Int} : prG s f a b = true ↔ (1 ≤ s ∧ s ≤ 6) ∧ (1 ≤ f ∧ f ≤ 4) ∧ (0 ≤ a ∧ a ≤ s) ∧ (0 ≤ b ∧ b ≤ s) := by
  simp only [prG, Bool.and_eq_true, inn_iff, and_assoc]
theorem memo_empty {P : Program} {k : TypeId} {F : Value → Value → Prop} {L : List Value} {b : Nat} {w : World} (h : w.heap[b]? = some (.map #[] 0)) : memo P k F L b w :=
  ⟨#[], 0, h, ⟨by simp, MapKept.stamped_empty 0, by simp⟩, by simp⟩
def prR (ru : Nat) (s f a b : Int) : Int × Int × Bool := if prG s f a b then ((mT ru s f a b).1, (mT ru s f a b).2, true) else (0, 0, false)
theorem told_calls (x y : Int) (w : World) : Calls Try.prog 221 #[.agg #[.int .i64 x, .int .i64 y]] w fun e w' => e = .returned (.tuple #[.int .i64 x, .int .i64 y, .bool true]) ∧ Below w.heap.size w w' := impl_fraction_told.calls x y x y true w rfl
abbrev Tq (s f a b : Int) (g : Nat) (W : World) : Prop :=
  Aside0 (W.heap[g]? = some (.cells #[.int .i64 s, .int .i64 f, .int .i64 a, .int .i64 b] 133 (0, 0))) ∧ W.cell? ⟨g, 0, none⟩ = some (.int .i64 s) ∧ W.cell? ⟨g, 1, none⟩ = some (.int .i64 f) ∧ W.cell? ⟨g, 2, none⟩ = some (.int .i64 a) ∧ W.cell? ⟨g, 3, none⟩ = some (.int .i64 b)
theorem tq {s f a b : Int} {g : Nat} {W : World} (h : W.heap[g]? = some (.cells #[.int .i64 s, .int .i64 f, .int .i64 a, .int .i64 b] 133 (0, 0))) : Tq s f a b g W :=
  ⟨⟨h⟩, (blk_cell h 0).trans rfl, (blk_cell h 1).trans rfl, (blk_cell h 2).trans rfl, (blk_cell h 3).trans rfl⟩
set_option maxHeartbeats 1600000 in
set_option maxRecDepth 100000 in
theorem meanBy_0 (s f a b : Int) (w : World) :
    Calls Try.prog 244 #[.int .i64 s, .int .i64 f, .int .i64 a, .int .i64 b, chO] w fun e w' => e = .returned (.tuple #[.int .i64 (prR 0 s f a b).1, .int .i64 (prR 0 s f a b).2.1, .bool (prR 0 s f a b).2.2]) ∧ Below w.heap.size w w' := by
  go_enter Try.func244, Try.ntmps244
  have HB := Aside0.mk (Below.refl w.heap.size w)
  by_cases hg : prG s f a b = true
  · have hr : prR 0 s f a b = ((mT 0 s f a b).1, (mT 0 s f a b).2, true) := by simp [prR, hg]
    rw [hr]
    have hg' : (inn s 1 6 && inn f 1 4 && inn a 0 s && inn b 0 s) = true := hg
    obtain ⟨hs, hf, ha, hb⟩ := prG_iff.1 hg
    clear hr hg
    go_wp2_with (go_at_call 200; refine (twins_of s f a b _).mono ?_; rintro e w1 ⟨rfl, hb1⟩; have n0_ := Aside0.mk (bT HB.out hb1); clear HB; have HB := n0_; clear n0_; clear hb1)
    have HG := Aside0.mk (blk_new w1 (.cells #[.int .i64 s, .int .i64 f, .int .i64 a, .int .i64 b] 133))
    have HB2 := Aside0.mk (below_alloc HB.out (.cells #[.int .i64 s, .int .i64 f, .int .i64 a, .int .i64 b] 133)).drew
    have hp : 2 * s - a - b ≤ ((2 * s - a - b).toNat : Int) := by omega
    have E0 := Aside0.mk (show (w1.alloc (.cells #[.int .i64 s, .int .i64 f, .int .i64 a, .int .i64 b] 133)).drew.heap.size + 1 = w1.heap.size + 1 + 1 from congrArg (· + 1) (World.size_alloc _ _))
    have hne : w1.heap.size ≠ w1.heap.size + 1 + 1 := by omega
    go_region_held3 (fun W => Tq s f a b w1.heap.size W) (first | exact tq (blk_drew HG.out) | exact tq (blk_below (blk_drew HG.out) hb3) | exact tq (blk_bx (blk_below (blk_drew HG.out) hb3) hb4 hne) | exact tq (blk_below (blk_bx (blk_below (blk_drew HG.out) hb3) hb4 hne) hb5)) (first
      | (go_at_call 249; (with_reducible refine (twins_new 245 #[] #[] _).mono ?_); rintro e w3 ⟨rfl, hm3, hb3⟩; rw [E0.out] at hm3; (try rw [E0.out]))
      | (go_at_call 251; (with_reducible refine (mean_0 (w1.heap.size + 1 + 1) hs hf (2 * s - a - b).toNat a b _ ha hb hp (memo_empty hm3)).mono ?_); rintro e w4 ⟨rfl, hm4, hb4⟩)
      | (go_at_call 221; (with_reducible refine (told_calls _ _ _).mono ?_); rintro e w5 ⟨rfl, hb5⟩))
    go_wp2
    go_returns
    have g2 := bT HB2.out hb3
    have g3 : Below w.heap.size w w4 := g2.trans ((hb4.mono g2.size).below (by have := HB.out.size; omega))
    exact ⟨rfl, bT g3 hb5⟩
  · have hr : prR 0 s f a b = (0, 0, false) := by simp [prR, hg]
    rw [hr]
    have hg' : (inn s 1 6 && inn f 1 4 && inn a 0 s && inn b 0 s) = false := by simpa [prG] using hg
    clear hr hg
    go_wp2_with (go_at_call 200; refine (twins_of s f a b _).mono ?_; rintro e w1 ⟨rfl, hb1⟩; have n0_ := Aside0.mk (bT HB.out hb1); clear HB; have HB := n0_; clear n0_; clear hb1)
    go_returns
    exact ⟨rfl, below_alloc HB.out _⟩
end Go.Proofs.Ytgahigmpcgfbeaa.P
end

section
namespace Go.Proofs.Ytgahigmpcgfbeaa.P
set_option linter.unusedVariables false
set_option linter.unusedSimpArgs false
open Go.RowKit Go.Proofs.YtgahigmpcgfbeaaW.PrintWords Go.Proofs.YtgahigmpcgfbeaaW.PrintLast Go.Proofs.YtgahigmpcgfbeaaW.PrintMore
theorem choice_all_0 (s f : Int) (B : Nat) (a b x : Int) (tok : Int) (w : World) (hs : 1 ≤ s ∧ s ≤ 6) (hf : 1 ≤ f ∧ f ≤ 4) (ha : 0 ≤ a ∧ a ≤ s) (hb : 0 ≤ b ∧ b ≤ s) (hx : 1 ≤ x ∧ x ≤ f)
    (hm : memo Try.prog 133 (twF 0 s f) (twL s f) B w) (ht : tk 0 s f a b x = some tok) :
    Calls Try.prog 256 #[.agg #[chO, .map (some B)], tw s f a b, .int .i64 x] w fun e w' => e = .returned (.int .i64 tok) ∧ memo Try.prog 133 (twF 0 s f) (twL s f) B w' ∧ Bx w.heap.size B w w' :=
  choice_0 s f B a b x tok w hs hf ha hb hx hm ht (fun a' b' w' ha' hb' _ hm' => mean_0 B hs hf (2 * s - a' - b').toNat a' b' w' ha' hb' (by omega) hm')
theorem mean_all_0 (s f : Int) (B : Nat) (a b : Int) (w : World) (hs : 1 ≤ s ∧ s ≤ 6) (hf : 1 ≤ f ∧ f ≤ 4) (ha : 0 ≤ a ∧ a ≤ s) (hb : 0 ≤ b ∧ b ≤ s)
    (hm : memo Try.prog 133 (twF 0 s f) (twL s f) B w) :
    Calls Try.prog 251 #[.agg #[chO, .map (some B)], tw s f a b] w fun e w' => e = .returned (frV (mT 0 s f a b)) ∧ memo Try.prog 133 (twF 0 s f) (twL s f) B w' ∧ Bx w.heap.size B w w' :=
  mean_0 B hs hf (2 * s - a - b).toNat a b w ha hb (by omega) hm
end Go.Proofs.Ytgahigmpcgfbeaa.P
end

section
namespace Go.Proofs.Ytgahigmpcgfbeaa.P
open Go.RowKit Go.Proofs.YtgahigmpcgfbeaaW.PrintWords Go.Proofs.YtgahigmpcgfbeaaW.PrintLast Go.Proofs.YtgahigmpcgfbeaaW.PrintMore
attribute [local go_sem] max2_int min2_int max_two min_two max_three min_three max_four min_four
set_option linter.unusedVariables false
set_option linter.unusedSimpArgs false
theorem eqA_frac (d : Nat) (w : World) (x0 y0 : Int) (x1 y1 : Int) :
    (Op.equalIn (d + 2) 147 (.agg #[.int .i64 x0, .int .i64 x1]) (.agg #[.int .i64 y0, .int .i64 y1])).run Try.prog w = .ok (x0 == y0 && (x1 == y1)) w := by
  refine eqA_of Try.underlying147 (by kernel_rfl) ?_
  refine eqf_cons (by rfl) (by go_simp; rfl) (by go_simp; rfl) (by go_simp) ?_
  exact eqf_last (by rfl) (by go_simp; rfl) (by go_simp; rfl) (by go_simp)
attribute [local go_sem high] eqA_frac
def mtB (s f a b x : Int) : Bool := decide (a + x ≤ s) && decide (b + x ≤ s) && (!((mT 0 s f (a + x) b).1 == (mT 0 s f a (b + x)).1) || !((mT 0 s f (a + x) b).2 == (mT 0 s f a (b + x)).2))
def mtL (s f a b : Int) : Nat → Int → List Int
  | 0, _ => []
  | n + 1, x => (if mtB s f a b x then [x] else []) ++ mtL s f a b n (x + 1)
def impl_PairMatters.f (s f a b : Int) : Option (List Int × Bool) := some (if prG s f a b then (mtL s f a b f.toNat 1, true) else ([], false))
structure Pm (s f a b : Int) (gt gm B : Nat) (w0 W : World) : Prop where
  map : memo Try.prog 133 (twF 0 s f) (twL s f) B W
  kt : W.heap[gt]? = some (.cells #[.int .i64 s, .int .i64 f, .int .i64 a, .int .i64 b] 133 (0, 0))
  km : W.heap[gm]? = some (.cells #[chO, .map (some B)] 163 (0, 0))
  nt : gt ≠ B
  nm : gm ≠ B
  lo : w0.heap.size ≤ B
  bw : Below w0.heap.size w0 W
section
variable {s f a b : Int} {gt gm B : Nat} {w0 W W' : World}
theorem Pm.drew (h : Pm s f a b gt gm B w0 W) : Pm s f a b gt gm B w0 W.drew := ⟨h.map.drew, blk_drew h.kt, blk_drew h.km, h.nt, h.nm, h.lo, h.bw.drew⟩
theorem Pm.below (h : Pm s f a b gt gm B w0 W) (hb : Below W.heap.size W W') : Pm s f a b gt gm B w0 W' := ⟨h.map.below hb, blk_below h.kt hb, blk_below h.km hb, h.nt, h.nm, h.lo, bT h.bw hb⟩
theorem Pm.mean (h : Pm s f a b gt gm B w0 W) (hm : memo Try.prog 133 (twF 0 s f) (twL s f) B W') (hb : Bx W.heap.size B W W') : Pm s f a b gt gm B w0 W' :=
  ⟨hm, blk_bx h.kt hb h.nt, blk_bx h.km hb h.nm, h.nt, h.nm, h.lo, h.bw.trans ((hb.mono h.bw.size).below h.lo)⟩
theorem Pm.grown {row : Option Nat} (h : Pm s f a b gt gm B w0 W) (hg : W.grownBy W' row) (hb : Below w0.heap.size w0 W') (h1 : some gt ≠ row) (h2 : some gm ≠ row) (h3 : some B ≠ row) : Pm s f a b gt gm B w0 W' :=
  ⟨h.map.same (hg.block B h.map.lt h3), blk_grown h.kt hg h1, blk_grown h.km hg h2, h.nt, h.nm, h.lo, hb⟩
abbrev Pv (s f a b : Int) (gt gm B : Nat) (w0 W : World) : Prop :=
  Aside0 (Pm s f a b gt gm B w0 W) ∧ W.cell? ⟨gt, 0, none⟩ = some (.int .i64 s) ∧ W.cell? ⟨gt, 1, none⟩ = some (.int .i64 f) ∧ W.cell? ⟨gt, 2, none⟩ = some (.int .i64 a) ∧ W.cell? ⟨gt, 3, none⟩ = some (.int .i64 b) ∧ W.cell? ⟨gm, 0, none⟩ = some chO ∧ W.cell? ⟨gm, 1, none⟩ = some (.map (some B))
theorem Pm.all (h : Pm s f a b gt gm B w0 W) : Pv s f a b gt gm B w0 W :=
  ⟨⟨h⟩, (blk_cell h.kt 0).trans rfl, (blk_cell h.kt 1).trans rfl, (blk_cell h.kt 2).trans rfl, (blk_cell h.kt 3).trans rfl, (blk_cell h.km 0).trans rfl, (blk_cell h.km 1).trans rfl⟩
end
theorem mv_len (s f a b x : Int) (h1 : -9223372036854775808 ≤ a + x) (h2 : a + x ≤ 9223372036854775807) (h3 : -9223372036854775808 ≤ b + x) (h4 : b + x ≤ 9223372036854775807) (n : Nat) (hn : (mvs s a b x 2).length = n) (w : World) :
    Calls Try.prog 250 #[tw s f a b, .int .i64 x] w fun e w' => ∃ (A : Option Addr) (cp : Nat), e = .returned (.slice A n cp) ∧ Below w.heap.size w w' := by
  subst hn
  refine (twins_moves s f a b x h1 h2 h3 h4 w).mono ?_
  rintro e w1 ⟨v, rfl, ho, hb⟩
  obtain ⟨A, cp, rfl, _, _⟩ := Kd.R_reads ho
  exact ⟨A, cp, rfl, hb⟩
set_option maxHeartbeats 3200000 in
set_option maxRecDepth 100000 in
theorem impl_PairMatters.calls (s f a b : Int) (r1 : List Int) (r2 : Bool) (w : World) (h : impl_PairMatters.f s f a b = some (r1, r2)) :
    Calls Try.prog 122 #[.int .i64 s, .int .i64 f, .int .i64 a, .int .i64 b] w fun e w' => ∃ v0_ : Value, e = .returned (.tuple #[v0_, .bool r2]) ∧ Kd.R (Kd.int .i64) 3 w' w.heap.size (fun _ => True) v0_ r1 ∧ Below w.heap.size w w' := by
  have HB := Aside0.mk (Below.refl w.heap.size w)
  have H := Aside0.mk (Option.some.inj h)
  clear h
  cases hg : prG s f a b with
  | true =>
    have hg' : (inn s 1 6 && inn f 1 4 && inn a 0 s && inn b 0 s) = true := hg
    obtain ⟨hs, hf, ha, hb⟩ := prG_iff.1 hg
    have h := H.out
    rw [if_pos hg] at h
    obtain ⟨h1, rfl⟩ := Prod.mk.inj h
    have H1 := Aside0.mk h1
    clear h h1 H hg
    have hsc := @store_func Try.prog (.func 245) #[] #[]
    go_enter Try.func122, Try.ntmps122
    go_wp2_with (first
      | (go_at_call 200; refine (twins_of s f a b _).mono ?_; rintro e w1 ⟨rfl, hb1⟩; have n0_ := Aside0.mk (bT HB.out hb1); clear HB; have HB := n0_; clear n0_; clear hb1; have HE := Aside0.mk (World.size_alloc w1 (.cells #[.int .i64 s, .int .i64 f, .int .i64 a, .int .i64 b] 133)))
      | (go_at_call 249; (with_reducible refine (twins_new 245 #[] #[] _).mono ?_); rintro e w3 ⟨rfl, hm3, hb3⟩; rw [HE.out] at hm3; (try rw [HE.out]); have HG := Aside0.mk (blk_below (blk_new w1 (.cells #[.int .i64 s, .int .i64 f, .int .i64 a, .int .i64 b] 133)) hb3); have HM := Aside0.mk hm3; have HB3 := Aside0.mk (bT (below_alloc HB.out (.cells #[.int .i64 s, .int .i64 f, .int .i64 a, .int .i64 b] 133)) hb3); clear hm3 hb3)
      | ((with_reducible refine gate_dst (N := 26) rfl ?_); refine Kd.R_lit (Kd.int .i64) _ 3 ?hg (N := 26) ?hd (xs := ([] : List Int)) (inner := []) (ok := fun k => k ≠ w1.heap.size + 1 + 1) (okp := fun k => k ≠ w1.heap.size + 1 + 1) ?hr ?hp (fun _ hk => hk) (Nat.ne_of_gt (blk_lt HM.out)) (Below.refl _ _) (Nat.le_refl _) (by simp) ?_; (case hd => rfl); (case hg => rfl); (case hr => first | (go_simp; done) | (go_simp; rfl)); (case hp => exact (Reps.none _ _)); intro v26 w4 ho hb hg_ hnew_; clear hg_ hnew_; have n0_ := Aside0.mk (Kd.R_lower ho HB3.out.size); have n1_ := Aside0.mk (blk_below HG.out hb); have n2_ := Aside0.mk (bT HB3.out hb); have n3_ := Aside0.mk (blk_below HM.out hb); clear HG HB3 HM hb ho; have HO := n0_; have HG := n1_; have HB3 := n2_; have HM := n3_; clear n0_ n1_ n2_ n3_))
    have HR := Aside0.mk (Kd.R_alloc HO.out (.cells #[chO, .map (some (w1.heap.size + 1 + 1))] 163))
    have HP := Aside0.mk (⟨(memo_empty HM.out).alloc _, blk_alloc HG.out _, blk_new w4 _, by omega, Nat.ne_of_gt (blk_lt HM.out), by have := HB.out.size; omega, below_alloc HB3.out _⟩ :
      Pm s f a b w1.heap.size w4.heap.size (w1.heap.size + 1 + 1) w (w4.alloc (.cells #[chO, .map (some (w1.heap.size + 1 + 1))] 163)))
    clear HO HG HM HB3 HE
    go_loopw [13, 14] (fun v13 v14 wr => ∃ (n : Nat) (x : Int) (xs : List Int), v14 = .int .i64 x ∧ x + n = f + 1 ∧ 1 ≤ x ∧ xs.length + n ≤ 4 ∧ Aside0 (xs ++ mtL s f a b n x = r1) ∧ Aside0 (Pm s f a b w1.heap.size w4.heap.size (w1.heap.size + 1 + 1) w wr) ∧ Aside0 (Kd.R (Kd.int .i64) 3 wr w.heap.size (fun k => k ≠ w1.heap.size + 1 + 1) v13 xs)) (fun _ v _ => (f + 1 - intOf v).toNat)
    case atStart => exact ⟨f.toNat, 1, [], rfl, by omega, by omega, by simp; omega, ⟨by simpa using H1.out⟩, HP, HR⟩
    case round =>
      clear HP HR H1
      obtain ⟨n, x, xs, rfl, hn, hx, hxs, HA, HP, HR⟩ := hrel
      have SV := HP.out.all
      have x0 := SV.2.1
      have x1 := SV.2.2.1
      have x2 := SV.2.2.2.1
      have x3 := SV.2.2.2.2.1
      have x4 := SV.2.2.2.2.2.1
      have x5 := SV.2.2.2.2.2.2
      clear SV
      by_cases hle : x ≤ f
      · obtain ⟨n, rfl⟩ : ∃ m : Nat, n = m + 1 := ⟨n - 1, by omega⟩
        have m1 : -9223372036854775808 ≤ a + x := by omega
        have m2 : a + x ≤ 9223372036854775807 := by omega
        have m3 : -9223372036854775808 ≤ b + x := by omega
        have m4 : b + x ≤ 9223372036854775807 := by omega
        have h0 := HA.out
        rw [mtL] at h0
        have HA := Aside0.mk h0
        clear h0
        by_cases c12 : a + x ≤ s ∧ b + x ≤ s
        · obtain ⟨c1, c2⟩ := c12
          have HL := Aside0.mk (show (mvs s a b x 2).length = 2 by simp [mvs, c1, c2])
          go_wp2
          go_region_held3 (fun W => Pv s f a b w1.heap.size w4.heap.size (w1.heap.size + 1 + 1) w W) (first | exact HP.out.drew.all | exact (HP.out.drew.below hb9).all | exact ((HP.out.drew.below hb9).below hb10).all | exact (((HP.out.drew.below hb9).below hb10).mean hm11 hb11).all | exact ((((HP.out.drew.below hb9).below hb10).mean hm11 hb11).below hb12).all | exact (((((HP.out.drew.below hb9).below hb10).mean hm11 hb11).below hb12).mean hm13 hb13).all) (first
            | (go_at_call 250; (with_reducible refine (mv_len s f a b x m1 m2 m3 m4 2 HL.out _).mono ?_); rintro e w9 ⟨A9, cp9, rfl, hb9⟩)
            | (go_at_call 252; (with_reducible refine (twins_moved0 s f a b x m1 m2 m3 m4 _).mono ?_); rintro e w10 ⟨rfl, hb10⟩)
            | (go_at_call 252; (with_reducible refine (twins_moved1 s f a b x m1 m2 m3 m4 _).mono ?_); rintro e w12 ⟨rfl, hb12⟩)
            | (go_at_call 251; (with_reducible refine (mean_all_0 s f (w1.heap.size + 1 + 1) (a + x) b _ hs hf ⟨by omega, c1⟩ hb ((HP.out.drew.below hb9).below hb10).map).mono ?_); rintro e w11 ⟨rfl, hm11, hb11⟩)
            | (go_at_call 251; (with_reducible refine (mean_all_0 s f (w1.heap.size + 1 + 1) a (b + x) _ hs hf ha ⟨by omega, c2⟩ ((((HP.out.drew.below hb9).below hb10).mean hm11 hb11).below hb12).map).mono ?_); rintro e w13 ⟨rfl, hm13, hb13⟩))
          have HP3 := Aside0.mk (((((HP.out.drew.below hb9).below hb10).mean hm11 hb11).below hb12).mean hm13 hb13)
          have HR3 := Aside0.mk (Kd.R_step (Kd.R_below (Kd.R_step (Kd.R_below (Kd.R_below (Kd.R_drew HR.out) hb9) hb10) (fun k ok hk => hb11.block k hk ok)) hb12) (fun k ok hk => hb13.block k hk ok))
          clear hb9 hb10 hb11 hb12 hb13 hm11 hm13 HP HR x0 x1 x2 x3 x4 x5
          cases hq : (!((mT 0 s f (a + x) b).1 == (mT 0 s f a (b + x)).1) || !((mT 0 s f (a + x) b).2 == (mT 0 s f a (b + x)).2)) with
          | false =>
            have HA := Aside0.mk (show xs ++ mtL s f a b n (x + 1) = r1 by have h0 := HA.out; rwa [show mtB s f a b x = false by simp only [mtB, hq, Bool.and_false], if_neg (by simp), List.nil_append] at h0)
            go_wp2
            exact ⟨⟨n, x + 1, xs, rfl, by omega, by omega, by omega, HA, HP3, HR3⟩, by simp [intOf]; omega⟩
          | true =>
            have HA := Aside0.mk (show (xs ++ [x]) ++ mtL s f a b n (x + 1) = r1 by have h0 := HA.out; rwa [show mtB s f a b x = true by simp only [mtB, hq, decide_eq_true c1, decide_eq_true c2, Bool.and_self], if_pos rfl, ← List.append_assoc] at h0)
            go_wp2_with ((with_reducible refine gate_builtin (b := .append) (xs := #[.tmp 50, .tmp 52]) rfl ?_); at_builtin; (refine Kd.R_append (Kd.int .i64) (w0 := w) w.heap.size rfl (.tmp 50) (.tmp 52) 26 3 (.int .i64 0) 8 rfl Try.underlying26 info3 rfl (by decide) (by omega) u13 xs x [.int .i64 x] (fun k => k ≠ w1.heap.size + 1 + 1) (fun _ => False) rfl (by first | rfl | (go_simp; done) | (go_simp; rfl)) ?aP (fun _ hk => hk.elim) ?aF ?aO ?aB ?aS ?aL ?_; (case aP => exact rfl); (case aB => exact HP3.out.bw); (case aF => exact (fun k hk => Nat.ne_of_gt (Nat.lt_of_lt_of_le HP3.out.map.lt hk))); (case aO => exact HR3.out); (case aS => exact HP3.out.bw.size); (case aL => omega); intro v675 w14 ho hb hg hat; have n0_ := Aside0.mk (HP3.out.grown hg hb (Kd.R_ne HR3.out HP3.out.kt (by decide)) (Kd.R_ne HR3.out HP3.out.km (by decide)) (fun e => HR3.out.1 _ e.symm rfl)); have n2_ := Aside0.mk ho; clear HP3 HR3; have HP3 := n0_; have HR3 := n2_; clear n0_ n2_; clear ho hb hg hat))
            exact ⟨⟨n, x + 1, xs ++ [x], rfl, by omega, by omega, by simp; omega, HA, HP3, HR3⟩, by simp [intOf]; omega⟩
        · have HA := Aside0.mk (show xs ++ mtL s f a b n (x + 1) = r1 by
            have h0 := HA.out
            rwa [show mtB s f a b x = false by
              unfold mtB
              by_cases c1 : a + x ≤ s
              · by_cases c2 : b + x ≤ s
                · exact absurd ⟨c1, c2⟩ c12
                · rw [decide_eq_false c2]; simp
              · rw [decide_eq_false c1]; simp, if_neg (by simp), List.nil_append] at h0)
          obtain ⟨q, hq, hL⟩ : ∃ q : Nat, (q = 0 ∨ q = 1) ∧ (mvs s a b x 2).length = q := by
            by_cases c1 : a + x ≤ s
            · by_cases c2 : b + x ≤ s
              · exact absurd ⟨c1, c2⟩ c12
              · exact ⟨1, Or.inr rfl, by simp [mvs, c1, c2]⟩
            · by_cases c2 : b + x ≤ s
              · exact ⟨1, Or.inr rfl, by simp [mvs, c1, c2]⟩
              · exact ⟨0, Or.inl rfl, by simp [mvs, c1, c2]⟩
          have HL := Aside0.mk hL
          clear hL c12
          rcases hq with rfl | rfl
          all_goals
            go_wp2
            refine start_ (n := 18) (S := fun w' => w'.cell? ⟨w1.heap.size, 0, none⟩ = some (.int .i64 s) ∧ w'.cell? ⟨w1.heap.size, 1, none⟩ = some (.int .i64 f) ∧ w'.cell? ⟨w1.heap.size, 2, none⟩ = some (.int .i64 a) ∧ w'.cell? ⟨w1.heap.size, 3, none⟩ = some (.int .i64 b)) (ds := []) #[false, false, false, false, false, false, false, false, false, false, false, false, false, false, false, false, false, false] (by kernel_rfl) rfl rfl ⟨(blk_cell (HP.out.drew.kt) 0).trans rfl, (blk_cell (HP.out.drew.kt) 1).trans rfl, (blk_cell (HP.out.drew.kt) 2).trans rfl, (blk_cell (HP.out.drew.kt) 3).trans rfl⟩ (fun hHeld => ?_)
            refine pure_ (i := 1) (N := some 33) (v := ?_) (a' := ?_) #[false, true, false, false, false, false, false, false, false, false, false, false, false, false, false, false, false, false] rfl rfl (by kernel_rfl) (fun _ _ _ h => h) (Or.inl ⟨by rfl, ?_⟩) ?_ ?_
            rotate_left
            · intro w'
              go_simp
              with_reducible rfl
            rotate_left
            · simp only [Act.put, List.setIfInBounds_toArray, List.set_cons_zero, List.set_cons_succ, i64_w, i32_w]
              rfl
            refine take_ (i := 0) (N := some 32) (v := ?_) (a' := ?_) #[true, true, false, false, false, false, false, false, false, false, false, false, false, false, false, false, false, false] rfl rfl (by kernel_rfl) (fun _ _ _ h => h) (Or.inl ⟨by rfl, ?_⟩) hHeld ?_ ?_
            rotate_left
            · rintro w' ⟨s0, s1, s2, s3⟩
              go_simp
              with_reducible rfl
            rotate_left
            · simp only [Act.put, List.setIfInBounds_toArray, List.set_cons_zero, List.set_cons_succ, i64_w, i32_w]
              rfl
            refine one_ (i := 2) (N := some 34) #[true, true, true, false, false, false, false, false, false, false, false, false, false, false, false, false, false, false] rfl rfl (by kernel_rfl) (by decide) (fun K hK => ?_)
            refine goes_ Try.func250 (by kernel_rfl) rfl #[tw s f a b, .int .i64 x] (by rfl) rfl rfl (by simp only [List.map_toArray, List.map_cons, List.map_nil]; rfl) ?_
            with_reducible refine (mv_len s f a b x m1 m2 m3 m4 _ HL.out _).mono ?_
            rintro e w9 ⟨A9, cp9, rfl, hb9⟩
            refine ⟨_, rfl, ?_⟩
            refine hK.out _ _ ⟨(blk_cell ((HP.out.drew.below hb9).kt) 0).trans rfl, (blk_cell ((HP.out.drew.below hb9).kt) 1).trans rfl, (blk_cell ((HP.out.drew.below hb9).kt) 2).trans rfl, (blk_cell ((HP.out.drew.below hb9).kt) 3).trans rfl⟩ (fun hHeld => ?_)
            clear hK K
            refine norm_ (a' := ?_) ?_ ?_
            rotate_left
            · show Act.put _ (some 34) _ = _
              simp only [Act.put, List.setIfInBounds_toArray, List.set_cons_zero, List.set_cons_succ, i64_w, i32_w]
              rfl
            refine pure_ (i := 3) (N := some 35) (v := ?_) (a' := ?_) #[true, true, true, true, false, false, false, false, false, false, false, false, false, false, false, false, false, false] rfl rfl (by kernel_rfl) (fun _ _ _ h => h) (Or.inl ⟨by rfl, ?_⟩) ?_ ?_
            rotate_left
            · intro w'
              go_simp
              with_reducible rfl
            rotate_left
            · simp only [Act.put, List.setIfInBounds_toArray, List.set_cons_zero, List.set_cons_succ, i64_w, i32_w]
              rfl
            refine pure_ (i := 4) (N := some 36) (v := ?_) (a' := ?_) #[true, true, true, true, true, false, false, false, false, false, false, false, false, false, false, false, false, false] rfl rfl (by kernel_rfl) (fun _ _ _ h => h) (Or.inl ⟨by rfl, ?_⟩) ?_ ?_
            rotate_left
            · intro w'
              go_simp
              with_reducible rfl
            rotate_left
            · simp only [Act.put, List.setIfInBounds_toArray, List.set_cons_zero, List.set_cons_succ, i64_w, i32_w]
              rfl
            refine pure_ (i := 5) (N := some 37) (v := ?_) (a' := ?_) #[true, true, true, true, true, true, false, false, false, false, false, false, false, false, false, false, false, false] rfl rfl (by kernel_rfl) (fun _ _ _ h => h) (Or.inl ⟨by rfl, ?_⟩) ?_ ?_
            rotate_left
            · intro w'
              go_simp
              with_reducible rfl
            rotate_left
            · simp only [Act.put, List.setIfInBounds_toArray, List.set_cons_zero, List.set_cons_succ, i64_w, i32_w]
              rfl
            refine pure_ (i := 6) (N := some 38) (v := undef) (a' := ?_) #[true, true, true, true, true, true, true, false, false, false, false, false, false, false, false, false, false, false] rfl rfl (by kernel_rfl) (fun _ _ _ h => h) (Or.inr ⟨by rfl, rfl⟩) ?_ ?_
            rotate_left
            · simp only [Act.put, List.setIfInBounds_toArray, List.set_cons_zero, List.set_cons_succ, i64_w, i32_w]
              rfl
            refine pure_ (i := 7) (N := some 39) (v := undef) (a' := ?_) #[true, true, true, true, true, true, true, true, false, false, false, false, false, false, false, false, false, false] rfl rfl (by kernel_rfl) (fun _ _ _ h => h) (Or.inr ⟨by rfl, rfl⟩) ?_ ?_
            rotate_left
            · simp only [Act.put, List.setIfInBounds_toArray, List.set_cons_zero, List.set_cons_succ, i64_w, i32_w]
              rfl
            refine pure_ (i := 8) (N := some 40) (v := undef) (a' := ?_) #[true, true, true, true, true, true, true, true, true, false, false, false, false, false, false, false, false, false] rfl rfl (by kernel_rfl) (fun _ _ _ h => h) (Or.inr ⟨by rfl, rfl⟩) ?_ ?_
            rotate_left
            · simp only [Act.put, List.setIfInBounds_toArray, List.set_cons_zero, List.set_cons_succ, i64_w, i32_w]
              rfl
            refine pure_ (i := 9) (N := some 41) (v := undef) (a' := ?_) #[true, true, true, true, true, true, true, true, true, true, false, false, false, false, false, false, false, false] rfl rfl (by kernel_rfl) (fun _ _ _ h => h) (Or.inr ⟨by rfl, rfl⟩) ?_ ?_
            rotate_left
            · simp only [Act.put, List.setIfInBounds_toArray, List.set_cons_zero, List.set_cons_succ, i64_w, i32_w]
              rfl
            refine pure_ (i := 10) (N := some 42) (v := undef) (a' := ?_) #[true, true, true, true, true, true, true, true, true, true, true, false, false, false, false, false, false, false] rfl rfl (by kernel_rfl) (fun _ _ _ h => h) (Or.inr ⟨by rfl, rfl⟩) ?_ ?_
            rotate_left
            · simp only [Act.put, List.setIfInBounds_toArray, List.set_cons_zero, List.set_cons_succ, i64_w, i32_w]
              rfl
            refine pure_ (i := 11) (N := some 43) (v := undef) (a' := ?_) #[true, true, true, true, true, true, true, true, true, true, true, true, false, false, false, false, false, false] rfl rfl (by kernel_rfl) (fun _ _ _ h => h) (Or.inr ⟨by rfl, rfl⟩) ?_ ?_
            rotate_left
            · simp only [Act.put, List.setIfInBounds_toArray, List.set_cons_zero, List.set_cons_succ, i64_w, i32_w]
              rfl
            refine pure_ (i := 12) (N := some 44) (v := undef) (a' := ?_) #[true, true, true, true, true, true, true, true, true, true, true, true, true, false, false, false, false, false] rfl rfl (by kernel_rfl) (fun _ _ _ h => h) (Or.inr ⟨by rfl, rfl⟩) ?_ ?_
            rotate_left
            · simp only [Act.put, List.setIfInBounds_toArray, List.set_cons_zero, List.set_cons_succ, i64_w, i32_w]
              rfl
            refine pure_ (i := 13) (N := some 45) (v := undef) (a' := ?_) #[true, true, true, true, true, true, true, true, true, true, true, true, true, true, false, false, false, false] rfl rfl (by kernel_rfl) (fun _ _ _ h => h) (Or.inr ⟨by rfl, rfl⟩) ?_ ?_
            rotate_left
            · simp only [Act.put, List.setIfInBounds_toArray, List.set_cons_zero, List.set_cons_succ, i64_w, i32_w]
              rfl
            refine pure_ (i := 14) (N := some 46) (v := undef) (a' := ?_) #[true, true, true, true, true, true, true, true, true, true, true, true, true, true, true, false, false, false] rfl rfl (by kernel_rfl) (fun _ _ _ h => h) (Or.inr ⟨by rfl, rfl⟩) ?_ ?_
            rotate_left
            · simp only [Act.put, List.setIfInBounds_toArray, List.set_cons_zero, List.set_cons_succ, i64_w, i32_w]
              rfl
            refine pure_ (i := 15) (N := some 47) (v := undef) (a' := ?_) #[true, true, true, true, true, true, true, true, true, true, true, true, true, true, true, true, false, false] rfl rfl (by kernel_rfl) (fun _ _ _ h => h) (Or.inr ⟨by rfl, rfl⟩) ?_ ?_
            rotate_left
            · simp only [Act.put, List.setIfInBounds_toArray, List.set_cons_zero, List.set_cons_succ, i64_w, i32_w]
              rfl
            refine pure_ (i := 16) (N := some 48) (v := undef) (a' := ?_) #[true, true, true, true, true, true, true, true, true, true, true, true, true, true, true, true, true, false] rfl rfl (by kernel_rfl) (fun _ _ _ h => h) (Or.inr ⟨by rfl, rfl⟩) ?_ ?_
            rotate_left
            · simp only [Act.put, List.setIfInBounds_toArray, List.set_cons_zero, List.set_cons_succ, i64_w, i32_w]
              rfl
            refine pure_ (i := 17) (N := some 49) (v := ?_) (a' := ?_) #[true, true, true, true, true, true, true, true, true, true, true, true, true, true, true, true, true, true] rfl rfl (by kernel_rfl) (fun _ _ _ h => h) (Or.inl ⟨by rfl, ?_⟩) ?_ ?_
            rotate_left
            · intro w'
              go_simp
              with_reducible rfl
            rotate_left
            · simp only [Act.put, List.setIfInBounds_toArray, List.set_cons_zero, List.set_cons_succ, i64_w, i32_w]
              rfl
            refine done_ (by kernel_rfl) ?_
            have HP3 := Aside0.mk (HP.out.drew.below hb9)
            have HR3 := Aside0.mk (Kd.R_below (Kd.R_drew HR.out) hb9)
            clear hb9 HP HR x0 x1 x2 x3 x4 x5
            go_wp2
            exact ⟨⟨n, x + 1, xs, rfl, by omega, by omega, by omega, HA, HP3, HR3⟩, by simp [intOf]; omega⟩
      · obtain rfl : n = 0 := by omega
        have hh := HA.out
        simp only [mtL, List.append_nil] at hh
        subst hh
        go_wp2
        go_ret2
        exact ⟨_, rfl, Kd.R_mono HR.out (fun _ _ => trivial), HP.out.bw⟩
  | false =>
    have hg' : (inn s 1 6 && inn f 1 4 && inn a 0 s && inn b 0 s) = false := hg
    have h := H.out
    rw [if_neg (by rw [hg]; simp)] at h
    obtain ⟨rfl, rfl⟩ := Prod.mk.inj h
    clear hg H h
    go_enter Try.func122, Try.ntmps122
    go_wp2_with (go_at_call 200; refine (twins_of s f a b _).mono ?_; rintro e w1 ⟨rfl, hb1⟩; have n0_ := Aside0.mk (bT HB.out hb1); clear HB; have HB := n0_; clear n0_; clear hb1)
    go_ret2
    exact ⟨_, rfl, Kd.R_nil _ _ _ _ _, below_alloc HB.out _⟩
end Go.Proofs.Ytgahigmpcgfbeaa.P
end
