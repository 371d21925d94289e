/- The program counts the games that come to a square as the reference does, for every board. -/
import Derived.Maps.OwnSet
import Derived.Maps.OwnOps
import Derived.DeepKeys4
import Derived.Maps.RangeWalk
import Derived.Maps.Ext
import Derived.WideKeyEntry
import Derived.OpenShut
import Derived.Test.YtnoejflancomaaaFnExactCountGamesOverc1
section
namespace Go.Proofs.Ytnoejflancomaaa.P
open Go.RowKit Go.Proofs.YtnoejflancomaaaW.PrintWords Go.Proofs.YtnoejflancomaaaW.PrintLast Go.Proofs.YtnoejflancomaaaW.PrintMore
attribute [local go_sem] max2_int min2_int max_two min_two max_three min_three max_four min_four
set_option linter.unusedVariables false
set_option linter.unusedSimpArgs false
def laws_toBoard.f (k : Nat) (a0_0 : Int) (a0_1 : Int) (a0_2 : Int) (l0_3 : List (S151)) : Option (Int × Int × Int × (List (S76))) := (laws_toJumpS.f k l0_3).bind fun t185 => (some (a0_0, a0_1, a0_2, t185))
theorem laws_toBoard.mono : ∀ a0 a1 a2 a3 k, LeO (laws_toBoard.f k a0 a1 a2 a3) (laws_toBoard.f (k + 1) a0 a1 a2 a3) := by
  intro a0 a1 a2 a3 k
  unfold laws_toBoard.f
  repeat' first
      | (with_reducible exact laws_toJumpS.mono _ _)
      | (with_reducible exact LeO.refl _)
      | (with_reducible exact LeO.none _)
      | (with_reducible refine LeO.ite ?_ ?_)
      | (with_reducible refine LeO.bind ?_ (fun _ => ?_))
      | exact laws_toJumpS.mono _ _
      | exact LeO.none _
      | refine LeO.ite ?_ ?_
      | refine LeO.bind ?_ (fun _ => ?_)
set_option maxHeartbeats 8000000 in
set_option maxRecDepth 100000 in
theorem laws_toBoard.calls (k : Nat) (a0_0 : Int) (a0_1 : Int) (a0_2 : Int) (A0_3 : Option Addr) (c0_3 : Nat) (l0_3 : List (S151)) (r1 : Int) (r2 : Int) (r3 : Int) (r4 : List (S76)) (w : World) (hr0_3 : Kd.C k151 w A0_3 l0_3.length l0_3) (hc0_3 : l0_3.length ≤ c0_3) (h : laws_toBoard.f k a0_0 a0_1 a0_2 l0_3 = some (r1, r2, r3, r4)) :
    Calls Try.prog 34 #[.agg #[.int .i64 a0_0, .int .i64 a0_1, .int .i64 a0_2, .slice A0_3 l0_3.length c0_3]] w fun e w' => ∃ v3_ : Value, e = .returned (.agg #[.int .i64 r1, .int .i64 r2, .int .i64 r3, v3_]) ∧ Kd.R k76 76 w' w.heap.size (fun _ => True) v3_ r4 ∧ Below w.heap.size w w' := by
  have hu33 := Try.underlying33
  have hu24 := Try.underlying24
  have HR0_3 := Aside0.mk hr0_3
  have HC0_3 := Aside0.mk hc0_3
  clear hr0_3 hc0_3
  have HB := Aside0.mk (Below.refl w.heap.size w)
  have H : ((laws_toJumpS.f k l0_3).bind fun t185 => (some (a0_0, a0_1, a0_2, t185))) = some (r1, r2, r3, r4) := h
  clear h
  replace H := Option.bind_eq_some_iff.mp H
  obtain ⟨t185, A20, H⟩ := H
  replace H : (some (a0_0, a0_1, a0_2, t185)) = some (r1, r2, r3, r4) := H
  have A2 := Aside0.mk A20
  clear A20
  simp only [Option.some.injEq, Prod.mk.injEq] at H
  obtain ⟨rfl, rfl, rfl, rfl⟩ := H
  go_enter Try.func34, Try.ntmps34
  go_wp2_with (first | ((with_reducible refine gate_dst (N := 1) rfl ?_); refine box_event ?hg (N := 1) ?hd (cs := #[.int .i64 a0_0, .int .i64 a0_1, .int .i64 a0_2, .slice A0_3 l0_3.length c0_3]) (t := 33) ?hr ?_; (case hd => rfl); (case hg => rfl); (case hr => first | (go_simp; done) | (go_simp; rfl)); intro gb182 hg w3 hbox hb; have n0_ := Aside0.mk (below_step (by repeat (first | (with_reducible first | exact HB.out | apply below_alloc | apply pw_below_drewN | apply below_drew1) | exact HB.out)) hb); have n1_ := Aside0.mk (hbox); have n2_ := Aside0.mk ((by rw [hg]; exact (below_size (by repeat (first | (with_reducible first | exact HB.out | apply below_alloc | apply pw_below_drewN | apply below_drew1) | exact HB.out))) : w.heap.size ≤ gb182)); have n3_ := Aside0.mk ((by rw [hg]; exact (below_size (by repeat (first | (with_reducible first | exact HB.out | apply below_alloc | apply pw_below_drewN | apply below_drew1) | exact HB.out))) : w.heap.size ≤ gb182)); clear HB; have HB := n0_; have BK182 := n1_; have GW182 := n2_; have GE182 := n3_; clear n0_ n1_ n2_ n3_; clear hb hbox hg) | ((with_reducible refine gate_dst (N := 2) rfl ?_); refine box_event ?hg (N := 2) ?hd (cs := #[.int .i64 0, .int .i64 0, .int .i64 0, .slice none 0 0]) (t := 24) ?hr ?_; (case hd => rfl); (case hg => rfl); (case hr => first | (go_simp; done) | (go_simp; rfl)); intro gb183 hg w4 hbox hb; have n0_ := Aside0.mk (blk_below (g := gb182) (o := .cells #[.int .i64 a0_0, .int .i64 a0_1, .int .i64 a0_2, .slice A0_3 l0_3.length c0_3] 33 (0, 0)) (by (with_reducible repeat (first | refine blk_drewN ?_ _ | refine blk_drew ?_ | refine blk_alloc ?_ _)); exact BK182.out) hb); have n1_ := Aside0.mk (below_step (by repeat (first | (with_reducible first | exact HB.out | apply below_alloc | apply pw_below_drewN | apply below_drew1 | refine below_set ?_ GE182.out) | exact HB.out)) hb); have n2_ := Aside0.mk (hbox); have n3_ := Aside0.mk ((by rw [hg]; exact (below_size (by repeat (first | (with_reducible first | exact HB.out | apply below_alloc | apply pw_below_drewN | apply below_drew1 | refine below_set ?_ GE182.out) | exact HB.out))) : w.heap.size ≤ gb183)); have n4_ := Aside0.mk ((by rw [hg]; exact (below_size (by repeat (first | (with_reducible first | exact HB.out | apply below_alloc | apply pw_below_drewN | apply below_drew1 | refine below_set ?_ GE182.out) | exact HB.out))) : w.heap.size ≤ gb183)); have n5_ := Aside0.mk ((by rw [hg]; exact Nat.ne_of_lt (blk_lt (g := gb182) (o := .cells #[.int .i64 a0_0, .int .i64 a0_1, .int .i64 a0_2, .slice A0_3 l0_3.length c0_3] 33 (0, 0)) (by (with_reducible repeat (first | refine blk_drewN ?_ _ | refine blk_drew ?_ | refine blk_alloc ?_ _)); exact BK182.out)) : gb182 ≠ gb183)); have n6_ := Aside0.mk ((by rw [hg]; exact Nat.ne_of_gt (blk_lt (g := gb182) (o := .cells #[.int .i64 a0_0, .int .i64 a0_1, .int .i64 a0_2, .slice A0_3 l0_3.length c0_3] 33 (0, 0)) (by (with_reducible repeat (first | refine blk_drewN ?_ _ | refine blk_drew ?_ | refine blk_alloc ?_ _)); exact BK182.out)) : gb183 ≠ gb182)); clear BK182; clear HB; have BK182 := n0_; have HB := n1_; have BK183 := n2_; have GW183 := n3_; have GE183 := n4_; have NB182_183 := n5_; have NB183_182 := n6_; clear n0_ n1_ n2_ n3_ n4_ n5_ n6_; clear hb hbox hg) | ((with_reducible refine gate_dst (N := 3) rfl ?_); refine box_event ?hg (N := 3) ?hd (cs := #[.int .i64 0, .int .i64 0, .int .i64 0, .slice none 0 0]) (t := 24) ?hr ?_; (case hd => rfl); (case hg => rfl); (case hr => first | (go_simp; done) | (go_simp; rfl)); intro gb184 hg w5 hbox hb; have n0_ := Aside0.mk (blk_below (g := gb182) (o := .cells #[.int .i64 a0_0, .int .i64 a0_1, .int .i64 a0_2, .slice A0_3 l0_3.length c0_3] 33 (0, 0)) (by (with_reducible repeat (first | refine blk_drewN ?_ _ | refine blk_drew ?_ | refine blk_alloc ?_ _)); exact BK182.out) hb); have n1_ := Aside0.mk (blk_below (g := gb183) (o := .cells #[.int .i64 0, .int .i64 0, .int .i64 0, .slice none 0 0] 24 (0, 0)) (by (with_reducible repeat (first | refine blk_drewN ?_ _ | refine blk_drew ?_ | refine blk_alloc ?_ _)); exact BK183.out) hb); have n2_ := Aside0.mk (below_step (by repeat (first | (with_reducible first | exact HB.out | apply below_alloc | apply pw_below_drewN | apply below_drew1 | refine below_set ?_ GE182.out | refine below_set ?_ GE183.out) | exact HB.out)) hb); have n3_ := Aside0.mk (hbox); have n4_ := Aside0.mk ((by rw [hg]; exact (below_size (by repeat (first | (with_reducible first | exact HB.out | apply below_alloc | apply pw_below_drewN | apply below_drew1 | refine below_set ?_ GE182.out | refine below_set ?_ GE183.out) | exact HB.out))) : w.heap.size ≤ gb184)); have n5_ := Aside0.mk ((by rw [hg]; exact (below_size (by repeat (first | (with_reducible first | exact HB.out | apply below_alloc | apply pw_below_drewN | apply below_drew1 | refine below_set ?_ GE182.out | refine below_set ?_ GE183.out) | exact HB.out))) : w.heap.size ≤ gb184)); have n6_ := Aside0.mk ((by rw [hg]; exact Nat.ne_of_lt (blk_lt (g := gb182) (o := .cells #[.int .i64 a0_0, .int .i64 a0_1, .int .i64 a0_2, .slice A0_3 l0_3.length c0_3] 33 (0, 0)) (by (with_reducible repeat (first | refine blk_drewN ?_ _ | refine blk_drew ?_ | refine blk_alloc ?_ _)); exact BK182.out)) : gb182 ≠ gb184)); have n7_ := Aside0.mk ((by rw [hg]; exact Nat.ne_of_gt (blk_lt (g := gb182) (o := .cells #[.int .i64 a0_0, .int .i64 a0_1, .int .i64 a0_2, .slice A0_3 l0_3.length c0_3] 33 (0, 0)) (by (with_reducible repeat (first | refine blk_drewN ?_ _ | refine blk_drew ?_ | refine blk_alloc ?_ _)); exact BK182.out)) : gb184 ≠ gb182)); have n8_ := Aside0.mk ((by rw [hg]; exact Nat.ne_of_lt (blk_lt (g := gb183) (o := .cells #[.int .i64 0, .int .i64 0, .int .i64 0, .slice none 0 0] 24 (0, 0)) (by (with_reducible repeat (first | refine blk_drewN ?_ _ | refine blk_drew ?_ | refine blk_alloc ?_ _)); exact BK183.out)) : gb183 ≠ gb184)); have n9_ := Aside0.mk ((by rw [hg]; exact Nat.ne_of_gt (blk_lt (g := gb183) (o := .cells #[.int .i64 0, .int .i64 0, .int .i64 0, .slice none 0 0] 24 (0, 0)) (by (with_reducible repeat (first | refine blk_drewN ?_ _ | refine blk_drew ?_ | refine blk_alloc ?_ _)); exact BK183.out)) : gb184 ≠ gb183)); clear BK182; clear BK183; clear HB; have BK182 := n0_; have BK183 := n1_; have HB := n2_; have BK184 := n3_; have GW184 := n4_; have GE184 := n5_; have NB182_184 := n6_; have NB184_182 := n7_; have NB183_184 := n8_; have NB184_183 := n9_; clear n0_ n1_ n2_ n3_ n4_ n5_ n6_ n7_ n8_ n9_; clear hb hbox hg; have hnb6 := NB182_183.out; have hnc6 := NB183_182.out; have hnb7 := NB182_184.out; have hnc7 := NB184_182.out; have hcz8_0 : w5.cell? ⟨gb182, 0, none⟩ = some (.int .i64 a0_0) := (blk_cell BK182.out 0).trans rfl; have hcz8_1 : w5.cell? ⟨gb182, 1, none⟩ = some (.int .i64 a0_1) := (blk_cell BK182.out 1).trans rfl; have hcz8_2 : w5.cell? ⟨gb182, 2, none⟩ = some (.int .i64 a0_2) := (blk_cell BK182.out 2).trans rfl; have hcz8_3 : w5.cell? ⟨gb182, 3, none⟩ = some (.slice A0_3 l0_3.length c0_3) := (blk_cell BK182.out 3).trans rfl; have hfz8_0 := blk_frozen BK182.out 0; have hfz8_1 := blk_frozen BK182.out 1; have hfz8_2 := blk_frozen BK182.out 2; have hfz8_3 := blk_frozen BK182.out 3; have hnb9 := NB184_183.out; have hnc9 := NB183_184.out; have hcz10_0 : w5.cell? ⟨gb184, 0, none⟩ = some (.int .i64 0) := (blk_cell BK184.out 0).trans rfl; have hcz10_1 : w5.cell? ⟨gb184, 1, none⟩ = some (.int .i64 0) := (blk_cell BK184.out 1).trans rfl; have hcz10_2 : w5.cell? ⟨gb184, 2, none⟩ = some (.int .i64 0) := (blk_cell BK184.out 2).trans rfl; have hcz10_3 : w5.cell? ⟨gb184, 3, none⟩ = some (.slice none 0 0) := (blk_cell BK184.out 3).trans rfl; have hfz10_0 := blk_frozen BK184.out 0; have hfz10_1 := blk_frozen BK184.out 1; have hfz10_2 := blk_frozen BK184.out 2; have hfz10_3 := blk_frozen BK184.out 3) | ((with_reducible refine gate_callee (f := 88) rfl ?_); refine goesL_ (some 15) rfl rfl Try.func88 (by kernel_rfl) rfl #[.slice A0_3 l0_3.length c0_3] rfl (by (try simp only [List.map_toArray, List.map_cons, List.map_nil]); first | done | rfl | (simp only [List.length_drop, List.length_take]; rfl)) ?_; (with_reducible refine (laws_toJumpS.calls k _ _ l0_3 t185 _ ?side1 ?side2 A2.out).mono ?_); (case side1 => exact Kd.C_below HR0_3.out (by repeat (first | (with_reducible first | exact HB.out | apply below_alloc | apply pw_below_drewN | apply below_drew1 | refine below_set ?_ GE182.out | refine below_set ?_ GE183.out | refine below_set ?_ GE184.out) | exact HB.out))); (case side2 => exact HC0_3.out); rintro e w11 ⟨v186, rfl, ho0, hb⟩; refine ⟨_, rfl, ?_⟩; have n0_ := Aside0.mk (Kd.R_lower ho0 (below_size (by repeat (first | (with_reducible first | exact HB.out | apply below_alloc | apply pw_below_drewN | apply below_drew1 | refine below_set ?_ GE182.out | refine below_set ?_ GE183.out | refine below_set ?_ GE184.out) | exact HB.out)))); have n1_ := Aside0.mk (blk_below (g := gb182) (o := .cells #[.int .i64 a0_0, .int .i64 a0_1, .int .i64 a0_2, .slice A0_3 l0_3.length c0_3] 33 (0, 0)) (by (with_reducible repeat (first | refine blk_drewN ?_ _ | refine blk_drew ?_ | refine blk_alloc ?_ _)); refine blk_far ?_ NB182_184.out _; (with_reducible repeat (first | refine blk_drewN ?_ _ | refine blk_drew ?_ | refine blk_alloc ?_ _)); refine blk_far ?_ NB182_184.out _; (with_reducible repeat (first | refine blk_drewN ?_ _ | refine blk_drew ?_ | refine blk_alloc ?_ _)); refine blk_far ?_ NB182_184.out _; (with_reducible repeat (first | refine blk_drewN ?_ _ | refine blk_drew ?_ | refine blk_alloc ?_ _)); exact BK182.out) hb); have n2_ := Aside0.mk (blk_below (g := gb183) (o := .cells #[.int .i64 0, .int .i64 0, .int .i64 0, .slice none 0 0] 24 (0, 0)) (by (with_reducible repeat (first | refine blk_drewN ?_ _ | refine blk_drew ?_ | refine blk_alloc ?_ _)); refine blk_far ?_ NB183_184.out _; (with_reducible repeat (first | refine blk_drewN ?_ _ | refine blk_drew ?_ | refine blk_alloc ?_ _)); refine blk_far ?_ NB183_184.out _; (with_reducible repeat (first | refine blk_drewN ?_ _ | refine blk_drew ?_ | refine blk_alloc ?_ _)); refine blk_far ?_ NB183_184.out _; (with_reducible repeat (first | refine blk_drewN ?_ _ | refine blk_drew ?_ | refine blk_alloc ?_ _)); exact BK183.out) hb); have n3_ := Aside0.mk (blk_below (g := gb184) (o := .cells #[.int .i64 a0_0, .int .i64 a0_1, .int .i64 a0_2, .slice none 0 0] 24 (0, 0)) (by (with_reducible repeat (first | refine blk_drewN ?_ _ | refine blk_drew ?_ | refine blk_alloc ?_ _)); refine blk_put (cs := #[.int .i64 a0_0, .int .i64 a0_1, .int .i64 0, .slice none 0 0]) ?_ 2 _ rfl; (with_reducible repeat (first | refine blk_drewN ?_ _ | refine blk_drew ?_ | refine blk_alloc ?_ _)); refine blk_put (cs := #[.int .i64 a0_0, .int .i64 0, .int .i64 0, .slice none 0 0]) ?_ 1 _ rfl; (with_reducible repeat (first | refine blk_drewN ?_ _ | refine blk_drew ?_ | refine blk_alloc ?_ _)); refine blk_put (cs := #[.int .i64 0, .int .i64 0, .int .i64 0, .slice none 0 0]) ?_ 0 _ rfl; (with_reducible repeat (first | refine blk_drewN ?_ _ | refine blk_drew ?_ | refine blk_alloc ?_ _)); exact BK184.out) hb); have n4_ := Aside0.mk (below_step (by repeat (first | (with_reducible first | exact HB.out | apply below_alloc | apply pw_below_drewN | apply below_drew1 | refine below_set ?_ GE182.out | refine below_set ?_ GE183.out | refine below_set ?_ GE184.out) | exact HB.out)) hb); clear BK182; clear BK183; clear BK184; clear HB; have HO187 := n0_; have BK182 := n1_; have BK183 := n2_; have BK184 := n3_; have HB := n4_; clear n0_ n1_ n2_ n3_ n4_; (try clear hb); (try clear hb2); (try clear hk); (try clear hi); (try clear ho0); obtain ⟨Ao12, co12, eo12⟩ := Kd.R_slice HO187.out; subst eo12; have hcz13_0 : w11.cell? ⟨gb184, 0, none⟩ = some (.int .i64 a0_0) := (blk_cell BK184.out 0).trans rfl; have hcz13_1 : w11.cell? ⟨gb184, 1, none⟩ = some (.int .i64 a0_1) := (blk_cell BK184.out 1).trans rfl; have hcz13_2 : w11.cell? ⟨gb184, 2, none⟩ = some (.int .i64 a0_2) := (blk_cell BK184.out 2).trans rfl; have hcz13_3 : w11.cell? ⟨gb184, 3, none⟩ = some (.slice none 0 0) := (blk_cell BK184.out 3).trans rfl; have hfz13_0 := blk_frozen BK184.out 0; have hfz13_1 := blk_frozen BK184.out 1; have hfz13_2 := blk_frozen BK184.out 2; have hfz13_3 := blk_frozen BK184.out 3; have hcz14_0 : w11.cell? ⟨gb183, 0, none⟩ = some (.int .i64 0) := (blk_cell BK183.out 0).trans rfl; have hcz14_1 : w11.cell? ⟨gb183, 1, none⟩ = some (.int .i64 0) := (blk_cell BK183.out 1).trans rfl; have hcz14_2 : w11.cell? ⟨gb183, 2, none⟩ = some (.int .i64 0) := (blk_cell BK183.out 2).trans rfl; have hcz14_3 : w11.cell? ⟨gb183, 3, none⟩ = some (.slice none 0 0) := (blk_cell BK183.out 3).trans rfl; have hfz14_0 := blk_frozen BK183.out 0; have hfz14_1 := blk_frozen BK183.out 1; have hfz14_2 := blk_frozen BK183.out 2; have hfz14_3 := blk_frozen BK183.out 3))
  refine bodyPost_ret (results_cell_row rfl _ _ gb183 24 #[.int .i64 a0_0, .int .i64 a0_1, .int .i64 a0_2, .slice Ao12 t185.length co12] (0, 0) _ rfl (by (with_reducible repeat (first | refine blk_drewN ?_ _ | refine blk_drew ?_ | refine blk_alloc ?_ _)); refine blk_put (cs := #[.int .i64 a0_0, .int .i64 a0_1, .int .i64 a0_2, .slice none 0 0]) ?_ 3 _ rfl; (with_reducible repeat (first | refine blk_drewN ?_ _ | refine blk_drew ?_ | refine blk_alloc ?_ _)); refine blk_put (cs := #[.int .i64 a0_0, .int .i64 a0_1, .int .i64 0, .slice none 0 0]) ?_ 2 _ rfl; (with_reducible repeat (first | refine blk_drewN ?_ _ | refine blk_drew ?_ | refine blk_alloc ?_ _)); refine blk_put (cs := #[.int .i64 a0_0, .int .i64 0, .int .i64 0, .slice none 0 0]) ?_ 1 _ rfl; (with_reducible repeat (first | refine blk_drewN ?_ _ | refine blk_drew ?_ | refine blk_alloc ?_ _)); refine blk_put (cs := #[.int .i64 0, .int .i64 0, .int .i64 0, .slice none 0 0]) ?_ 0 _ rfl; (with_reducible repeat (first | refine blk_drewN ?_ _ | refine blk_drew ?_ | refine blk_alloc ?_ _)); refine blk_far ?_ NB183_184.out _; (with_reducible repeat (first | refine blk_drewN ?_ _ | refine blk_drew ?_ | refine blk_alloc ?_ _)); exact BK183.out) Try.underlying24 rfl (by kernel_rfl)) rfl ?_
  exact ⟨_, by first | rfl | (simp [errW_none, errW_some] <;> rfl) | (simp [*, errW_none, errW_some] <;> rfl), by (with_reducible repeat (first | apply Kd.R_alloc | apply Kd.R_drewN | apply Kd.R_drew)); exact Kd.R_mono (Kd.R_far (p := ⟨gb183, 3, none⟩) (Kd.R_far (p := ⟨gb183, 2, none⟩) (Kd.R_far (p := ⟨gb183, 1, none⟩) (Kd.R_far (p := ⟨gb183, 0, none⟩) (Kd.R_far (p := ⟨gb184, 3, none⟩) (Kd.R_types (Kd.R_types HO187.out BK184.out (by decide)) BK183.out (by decide)) (fun _ hk => hk.1.2) (.slice Ao12 t185.length co12)) (fun _ hk => hk.2) (.int .i64 a0_0)) (fun _ hk => hk.2) (.int .i64 a0_1)) (fun _ hk => hk.2) (.int .i64 a0_2)) (fun _ hk => hk.2) (.slice Ao12 t185.length co12)) (fun _ hk => trivial), by repeat (first | (with_reducible first | exact HB.out | apply below_alloc | apply pw_below_drewN | apply below_drew1 | refine below_set ?_ GE182.out | refine below_set ?_ GE183.out | refine below_set ?_ GE184.out) | exact HB.out)⟩
end Go.Proofs.Ytnoejflancomaaa.P
end

section
namespace Go.Proofs.Ytnoejflancomaaa.P
open Go.RowKit Go.Proofs.YtnoejflancomaaaW.PrintWords Go.Proofs.YtnoejflancomaaaW.PrintLast Go.Proofs.YtnoejflancomaaaW.PrintMore
attribute [local go_sem] max2_int min2_int max_two min_two max_three min_three max_four min_four
set_option linter.unusedVariables false
set_option linter.unusedSimpArgs false
def impl_isGamed.f (a0_0 : Int) (a0_1 : Int) (a0_2 : Int) (l0_3 : List (S76)) (a1 : Int) : Option (Bool) := (impl_IsBoard.f a0_0 a0_1 a0_2 l0_3).bind fun t400 => (if t400 = true then ((impl_within.f a1 0 16).bind fun t401 => (some t401)) else (some false))
set_option maxHeartbeats 8000000 in
set_option maxRecDepth 100000 in
theorem impl_isGamed.calls (a0_0 : Int) (a0_1 : Int) (a0_2 : Int) (A0_3 : Option Addr) (c0_3 : Nat) (l0_3 : List (S76)) (a1 : Int) (r : Bool) (w : World) (hr0_3 : Kd.C k76 w A0_3 l0_3.length l0_3) (hc0_3 : l0_3.length ≤ c0_3) (h : impl_isGamed.f a0_0 a0_1 a0_2 l0_3 a1 = some r) :
    Calls Try.prog 89 #[.agg #[.int .i64 a0_0, .int .i64 a0_1, .int .i64 a0_2, .slice A0_3 l0_3.length c0_3], .int .i64 a1] w fun e w' => e = .returned (.bool r) ∧ Below w.heap.size w w' := by
  have hu24 := Try.underlying24
  have HR0_3 := Aside0.mk hr0_3
  have HC0_3 := Aside0.mk hc0_3
  clear hr0_3 hc0_3
  have HB := Aside0.mk (Below.refl w.heap.size w)
  have H : ((impl_IsBoard.f a0_0 a0_1 a0_2 l0_3).bind fun t400 => (if t400 = true then ((impl_within.f a1 0 16).bind fun t401 => (some t401)) else (some false))) = some r := h
  clear h
  replace H := Option.bind_eq_some_iff.mp H
  obtain ⟨t400, A30, H⟩ := H
  replace H : (if t400 = true then ((impl_within.f a1 0 16).bind fun t401 => (some t401)) else (some false)) = some r := H
  have A3 := Aside0.mk A30
  clear A30
  by_cases c4 : t400 = true
  · subst c4
    have H1 : ((impl_within.f a1 0 16).bind fun t401 => (some t401)) = some r := by rw [if_pos rfl] at H; exact H
    clear H
    have H := H1
    clear H1
    replace H := Option.bind_eq_some_iff.mp H
    obtain ⟨t401, A50, H⟩ := H
    replace H : (some t401) = some r := H
    have A5 := Aside0.mk A50
    clear A50
    obtain rfl := Option.some.inj H
    go_enter Try.func89, Try.ntmps89
    go_wp2_with (first | ((with_reducible refine gate_dst (N := 2) rfl ?_); refine box_event ?hg (N := 2) ?hd (cs := #[.int .i64 a0_0, .int .i64 a0_1, .int .i64 a0_2, .slice A0_3 l0_3.length c0_3]) (t := 24) ?hr ?_; (case hd => rfl); (case hg => rfl); (case hr => first | (go_simp; done) | (go_simp; rfl)); intro gb399 hg w6 hbox hb; have n0_ := Aside0.mk (below_step (by repeat (first | (with_reducible first | exact HB.out | apply below_alloc | apply pw_below_drewN | apply below_drew1) | exact HB.out)) hb); have n1_ := Aside0.mk (hbox); have n2_ := Aside0.mk ((by rw [hg]; exact (below_size (by repeat (first | (with_reducible first | exact HB.out | apply below_alloc | apply pw_below_drewN | apply below_drew1) | exact HB.out))) : w.heap.size ≤ gb399)); have n3_ := Aside0.mk ((by rw [hg]; exact (below_size (by repeat (first | (with_reducible first | exact HB.out | apply below_alloc | apply pw_below_drewN | apply below_drew1) | exact HB.out))) : w.heap.size ≤ gb399)); clear HB; have HB := n0_; have BK399 := n1_; have GW399 := n2_; have GE399 := n3_; clear n0_ n1_ n2_ n3_; clear hb hbox hg; have hcz7_0 : w6.cell? ⟨gb399, 0, none⟩ = some (.int .i64 a0_0) := (blk_cell BK399.out 0).trans rfl; have hcz7_1 : w6.cell? ⟨gb399, 1, none⟩ = some (.int .i64 a0_1) := (blk_cell BK399.out 1).trans rfl; have hcz7_2 : w6.cell? ⟨gb399, 2, none⟩ = some (.int .i64 a0_2) := (blk_cell BK399.out 2).trans rfl; have hcz7_3 : w6.cell? ⟨gb399, 3, none⟩ = some (.slice A0_3 l0_3.length c0_3) := (blk_cell BK399.out 3).trans rfl; have hfz7_0 := blk_frozen BK399.out 0; have hfz7_1 := blk_frozen BK399.out 1; have hfz7_2 := blk_frozen BK399.out 2; have hfz7_3 := blk_frozen BK399.out 3) | ((with_reducible refine gate_callee (f := 131) rfl ?_); refine goesL_ (some 6) rfl rfl Try.func131 (by kernel_rfl) rfl #[.agg #[.int .i64 a0_0, .int .i64 a0_1, .int .i64 a0_2, .slice A0_3 l0_3.length c0_3]] rfl (by (try simp only [List.map_toArray, List.map_cons, List.map_nil]); first | done | rfl | (simp only [List.length_drop, List.length_take]; rfl)) ?_; (with_reducible refine (impl_IsBoard.calls a0_0 a0_1 a0_2 _ _ l0_3 true _ ?side1 ?side2 A3.out).mono ?_); (case side1 => repeat (first | exact (Kd.C_below HR0_3.out HB.out) | (with_reducible refine Kd.C_alloc ?_ _) | (with_reducible refine Kd.C_drewN ?_ _) | (with_reducible refine Kd.C_drew ?_))); (case side2 => exact HC0_3.out); rintro e w8 ⟨rfl, hb⟩; refine ⟨_, rfl, ?_⟩; have n0_ := Aside0.mk (blk_below (g := gb399) (o := .cells #[.int .i64 a0_0, .int .i64 a0_1, .int .i64 a0_2, .slice A0_3 l0_3.length c0_3] 24 (0, 0)) (by (with_reducible repeat (first | refine blk_drewN ?_ _ | refine blk_drew ?_ | refine blk_alloc ?_ _)); exact BK399.out) hb); have n1_ := Aside0.mk (below_step (by repeat (first | (with_reducible first | exact HB.out | apply below_alloc | apply pw_below_drewN | apply below_drew1 | refine below_set ?_ GE399.out) | exact HB.out)) hb); clear BK399; clear HB; have BK399 := n0_; have HB := n1_; clear n0_ n1_; (try clear hb); (try clear hb2); (try clear hk); (try clear hi)) | (go_at_call 104; (with_reducible refine (impl_within.calls a1 0 16 t401 _ A5.out).mono ?_); rintro e w' ⟨rfl, ⟨nd, rfl⟩⟩))
    go_ret
    exact ⟨by first | rfl | (simp [errW_none, errW_some] <;> rfl) | (simp [*, errW_none, errW_some] <;> rfl), by repeat (first | (with_reducible first | exact HB.out | apply below_alloc | apply pw_below_drewN | apply below_drew1 | refine below_set ?_ GE399.out) | exact HB.out)⟩
  · replace c4 := Bool.eq_false_iff.mpr c4
    subst c4
    have H1 : (some false) = some r := by rw [if_neg (show ¬ (false = true) by decide)] at H; exact H
    clear H
    have H := H1
    clear H1
    obtain rfl := Option.some.inj H
    go_enter Try.func89, Try.ntmps89
    go_wp2_with (first | ((with_reducible refine gate_dst (N := 2) rfl ?_); refine box_event ?hg (N := 2) ?hd (cs := #[.int .i64 a0_0, .int .i64 a0_1, .int .i64 a0_2, .slice A0_3 l0_3.length c0_3]) (t := 24) ?hr ?_; (case hd => rfl); (case hg => rfl); (case hr => first | (go_simp; done) | (go_simp; rfl)); intro gb399 hg w9 hbox hb; have n0_ := Aside0.mk (below_step (by repeat (first | (with_reducible first | exact HB.out | apply below_alloc | apply pw_below_drewN | apply below_drew1) | exact HB.out)) hb); have n1_ := Aside0.mk (hbox); have n2_ := Aside0.mk ((by rw [hg]; exact (below_size (by repeat (first | (with_reducible first | exact HB.out | apply below_alloc | apply pw_below_drewN | apply below_drew1) | exact HB.out))) : w.heap.size ≤ gb399)); have n3_ := Aside0.mk ((by rw [hg]; exact (below_size (by repeat (first | (with_reducible first | exact HB.out | apply below_alloc | apply pw_below_drewN | apply below_drew1) | exact HB.out))) : w.heap.size ≤ gb399)); clear HB; have HB := n0_; have BK399 := n1_; have GW399 := n2_; have GE399 := n3_; clear n0_ n1_ n2_ n3_; clear hb hbox hg; have hcz10_0 : w9.cell? ⟨gb399, 0, none⟩ = some (.int .i64 a0_0) := (blk_cell BK399.out 0).trans rfl; have hcz10_1 : w9.cell? ⟨gb399, 1, none⟩ = some (.int .i64 a0_1) := (blk_cell BK399.out 1).trans rfl; have hcz10_2 : w9.cell? ⟨gb399, 2, none⟩ = some (.int .i64 a0_2) := (blk_cell BK399.out 2).trans rfl; have hcz10_3 : w9.cell? ⟨gb399, 3, none⟩ = some (.slice A0_3 l0_3.length c0_3) := (blk_cell BK399.out 3).trans rfl; have hfz10_0 := blk_frozen BK399.out 0; have hfz10_1 := blk_frozen BK399.out 1; have hfz10_2 := blk_frozen BK399.out 2; have hfz10_3 := blk_frozen BK399.out 3) | ((with_reducible refine gate_callee (f := 131) rfl ?_); refine goesL_ (some 6) rfl rfl Try.func131 (by kernel_rfl) rfl #[.agg #[.int .i64 a0_0, .int .i64 a0_1, .int .i64 a0_2, .slice A0_3 l0_3.length c0_3]] rfl (by (try simp only [List.map_toArray, List.map_cons, List.map_nil]); first | done | rfl | (simp only [List.length_drop, List.length_take]; rfl)) ?_; (with_reducible refine (impl_IsBoard.calls a0_0 a0_1 a0_2 _ _ l0_3 false _ ?side1 ?side2 A3.out).mono ?_); (case side1 => repeat (first | exact (Kd.C_below HR0_3.out HB.out) | (with_reducible refine Kd.C_alloc ?_ _) | (with_reducible refine Kd.C_drewN ?_ _) | (with_reducible refine Kd.C_drew ?_))); (case side2 => exact HC0_3.out); rintro e w11 ⟨rfl, hb⟩; refine ⟨_, rfl, ?_⟩; have n0_ := Aside0.mk (blk_below (g := gb399) (o := .cells #[.int .i64 a0_0, .int .i64 a0_1, .int .i64 a0_2, .slice A0_3 l0_3.length c0_3] 24 (0, 0)) (by (with_reducible repeat (first | refine blk_drewN ?_ _ | refine blk_drew ?_ | refine blk_alloc ?_ _)); exact BK399.out) hb); have n1_ := Aside0.mk (below_step (by repeat (first | (with_reducible first | exact HB.out | apply below_alloc | apply pw_below_drewN | apply below_drew1 | refine below_set ?_ GE399.out) | exact HB.out)) hb); clear BK399; clear HB; have BK399 := n0_; have HB := n1_; clear n0_ n1_; (try clear hb); (try clear hb2); (try clear hk); (try clear hi)))
    go_ret
    exact ⟨by first | rfl | (simp [errW_none, errW_some] <;> rfl) | (simp [*, errW_none, errW_some] <;> rfl), by repeat (first | (with_reducible first | exact HB.out | apply below_alloc | apply pw_below_drewN | apply below_drew1 | refine below_set ?_ GE399.out) | exact HB.out)⟩
end Go.Proofs.Ytnoejflancomaaa.P
end

section
namespace Go.Proofs.Ytnoejflancomaaa.P
open Go.RowKit Go.Proofs.YtnoejflancomaaaW.PrintWords Go.Proofs.YtnoejflancomaaaW.PrintLast Go.Proofs.YtnoejflancomaaaW.PrintMore
attribute [local go_sem] max2_int min2_int max_two min_two max_three min_three max_four min_four
set_option linter.unusedVariables false
set_option linter.unusedSimpArgs false
def sqr (sq : Int) (l : List S76) (n : Int) : Bool := inn n 0 sq && !(jmp l n).2
def impl_Board_isSquare.f (sq _ _ : Int) (l : List S76) (n : Int) : Option Bool := some (sqr sq l n)
set_option maxHeartbeats 800000 in
theorem impl_Board_isSquare.calls (sq fc ov : Int) (A : Option Addr) (c : Nat) (l : List S76) (n : Int) (r : Bool) (w : World) (hr : Kd.C k76 w A l.length l) (hc : l.length ≤ c) (h : impl_Board_isSquare.f sq fc ov l n = some r) :
    Calls Try.prog 90 #[.agg #[.int .i64 sq, .int .i64 fc, .int .i64 ov, .slice A l.length c], .int .i64 n] w fun e w' => e = .returned (.bool r) ∧ Below w.heap.size w w' := by
  obtain rfl : sqr sq l n = r := by simpa [impl_Board_isSquare.f] using h
  have HR := Aside0.mk hr
  clear h hr
  have HB := Aside0.mk (below_alloc (Below.refl w.heap.size w) (.cells #[.int .i64 sq, .int .i64 fc, .int .i64 ov, .slice A l.length c] 24))
  rcases Bool.eq_false_or_eq_true (inn n 0 sq) with c1 | c1
  all_goals
    go_enter Try.func90, Try.ntmps90
    go_wp2_with (first | (go_at_call 145; refine (impl_Board_begins.calls _ _ _ _ _ _ _ _ _ _ (Kd.C_below HR.out HB.out) hc rfl).mono ?_; rintro e w1 ⟨rfl, hb⟩; have z0 : w1.cell? ⟨w.heap.size, 0, none⟩ = some (.int .i64 sq) := (blk_cell (blk_below (blk_new w _) hb) 0).trans rfl; have HB1 := Aside0.mk (HB.out.trans (hb.mono HB.out.size)); clear hb) | (go_at_call 104; refine (within_any _ _ _ _).mono ?_; rintro e w' ⟨rfl, rfl⟩))
    go_ret
    exact ⟨by simp [sqr, c1], HB1.out⟩
end Go.Proofs.Ytnoejflancomaaa.P
end

section
namespace Go.Proofs.Ytnoejflancomaaa.P
set_option linter.unusedVariables false
set_option linter.unusedSimpArgs false
open Go Go.RowKit Go.Proofs.YtnoejflancomaaaW.PrintWords Go.Proofs.YtnoejflancomaaaW.PrintLast Go.Proofs.YtnoejflancomaaaW.PrintMore
structure Bx (B b : Nat) (w w' : World) : Prop where
  os : w'.os = w.os
  tape : w'.tape = w.tape
  output : w'.output = w.output
  size : w.heap.size ≤ w'.heap.size
  block : ∀ k, k < B → k ≠ b → w'.heap[k]? = w.heap[k]?
theorem Bx.refl (B b : Nat) (w : World) : Bx B b w w := ⟨rfl, rfl, rfl, Nat.le_refl _, fun _ _ _ => rfl⟩
theorem Bx.trans {B b : Nat} {w1 w2 w3 : World} (h : Bx B b w1 w2) (k : Bx B b w2 w3) : Bx B b w1 w3 :=
  ⟨k.os.trans h.os, k.tape.trans h.tape, k.output.trans h.output, Nat.le_trans h.size k.size, fun i hi hb => (k.block i hi hb).trans (h.block i hi hb)⟩
theorem Bx.mono {B B' b : Nat} {w w' : World} (h : Bx B b w w') (hB : B' ≤ B) : Bx B' b w w' := ⟨h.os, h.tape, h.output, h.size, fun k hk hb => h.block k (Nat.lt_of_lt_of_le hk hB) hb⟩
theorem bx_of {B b : Nat} {w w' : World} (h : Below B w w') : Bx B b w w' := ⟨h.os, h.tape, h.output, h.size, fun k hk _ => h.block k hk⟩
theorem Bx.below {B b : Nat} {w w' : World} (h : Bx B b w w') (hb : B ≤ b) : Below B w w' := ⟨h.os, h.tape, h.output, h.size, fun k hk => h.block k hk (by omega)⟩
theorem Bx.grown {B b : Nat} {w1 w w' : World} (h : Bx B b w1 w) (hg : w.grownBy w' (some b)) (hB : B ≤ w.heap.size) : Bx B b w1 w' :=
  h.trans ⟨hg.os, hg.tape, hg.output, hg.size, fun k hk hb => hg.block k (by omega) (fun e => hb (Option.some.inj e))⟩
theorem Bx.andB {b : Nat} {w W W2 : World} (h : Bx w.heap.size b w W) (k : Below W.heap.size W W2) : Bx w.heap.size b w W2 := h.trans (bx_of (k.mono h.size))
theorem Bx.next {b : Nat} {w W W2 : World} (h : Bx w.heap.size b w W) (k : Bx W.heap.size b W W2) : Bx w.heap.size b w W2 := h.trans (k.mono h.size)
theorem bx_alloc {b : Nat} {w W : World} (h : Bx w.heap.size b w W) (o : Obj) : Bx w.heap.size b w (W.alloc o) := h.andB ((Below.refl _ _).alloc (Nat.le_refl _) o)
theorem bx_drewN {B b : Nat} {w W : World} (h : Bx B b w W) (n : Nat) : Bx B b w (W.drewN n) := ⟨h.os, h.tape, h.output, h.size, h.block⟩
theorem bx_drew {B b : Nat} {w W : World} (h : Bx B b w W) : Bx B b w W.drew := ⟨h.os, h.tape, h.output, h.size, h.block⟩
theorem bx_set {B b : Nat} {w W : World} (h : Bx B b w W) {p : Addr} (hp : B ≤ p.block) (u : Value) : Bx B b w (W.setCell p u) :=
  h.trans ⟨rfl, rfl, rfl, by simp [World.setCell], fun k hk _ => Below.heap_setCell _ _ _ _ (by omega)⟩
theorem blk_bx {w w1 : World} {g b : Nat} {o : Obj} (h : w.heap[g]? = some o) (hb : Bx w.heap.size b w w1) (hne : g ≠ b) : w1.heap[g]? = some o := (hb.block g (blk_lt h) hne).trans h
theorem store_func {P : Program} (g : Fn) (fi ca : Array Value) (a : Addr) (m : Mode) (w : World) : (store a (.func g fi ca) m).run P w = stored P w a (.func g fi ca) m := run_store P w a _ m rfl
def anyR (_ : Value) : Option (DataW Unit × List MemPlace) := some (.nil, [])
def memo (P : Program) (k : TypeId) (F : Value → Value → Prop) (L : List Value) (b : Nat) (w : World) : Prop :=
  ∃ es clock, w.heap[b]? = some (.map es clock) ∧ WideElems.Fit P k anyR es clock ∧ ∀ x ∈ es.toList, F x.key x.val ∧ x.key ∈ L
theorem nodup_le {α : Type} [DecidableEq α] : ∀ {l L : List α}, l.Nodup → (∀ x ∈ l, x ∈ L) → l.length ≤ L.length
  | [], _, _, _ => Nat.zero_le _
  | x :: r, L, hn, hs => by
    obtain ⟨h1, h2⟩ := List.nodup_cons.1 hn
    have hx := hs x (by simp)
    have := nodup_le (L := L.erase x) h2 (fun y hy => (List.mem_erase_of_ne (fun e => h1 (by rw [← e]; exact hy))).2 (hs y (by simp [hy])))
    rw [List.length_erase_of_mem hx] at this
    have := List.length_pos_of_mem hx
    simp only [List.length_cons]
    omega
section
variable {P : Program} {k : TypeId} {F : Value → Value → Prop} {L : List Value} {b : Nat} {w : World}
theorem memo.lt (h : memo P k F L b w) : b < w.heap.size := by
  obtain ⟨es, clock, hb, _⟩ := h
  exact (Array.getElem?_eq_some_iff.1 hb).1
theorem memo_made (w : World) : memo P k F L w.heap.size (w.alloc (.map #[] 0)) :=
  ⟨#[], 0, (MapKept.heap_alloc w _).1, ⟨by simp, MapKept.stamped_empty 0, by simp⟩, by simp⟩
theorem memo.same (h : memo P k F L b w) {w' : World} (e : w'.heap[b]? = w.heap[b]?) : memo P k F L b w' := by
  obtain ⟨es, clock, hb, r⟩ := h
  exact ⟨es, clock, e.trans hb, r⟩
theorem memo.below (h : memo P k F L b w) {w' : World} (hb : Below w.heap.size w w') : memo P k F L b w' := h.same (hb.block b h.lt)
theorem memo.alloc (h : memo P k F L b w) (o : Obj) : memo P k F L b (w.alloc o) := h.below ((Below.refl _ _).alloc (Nat.le_refl _) o)
theorem memo.drewN (h : memo P k F L b w) (n : Nat) : memo P k F L b (w.drewN n) := h
theorem memo.drew (h : memo P k F L b w) : memo P k F L b w.drew := h
theorem memo.set (h : memo P k F L b w) {p : Addr} (hp : p.block ≠ b) (u : Value) : memo P k F L b (w.setCell p u) := h.same (Below.heap_setCell _ _ _ _ (fun e => hp e.symm))
theorem memo.look (h : memo P k F L b w) {t e : TypeId} (K : Go.Maps.Keyed P k) (ht : P.underlying t = some (.map k e)) {z : Value} (hz : (zeroValue e).run P w = .ok z w) {key : Value} {kl : Lit} (hkey : keyOf P k key = some kl) :
    (Instr.lookup t (.map (some b)) key true).run P w = .ok (.tuple #[z, .bool false]) w ∨ ∃ v, F key v ∧ (Instr.lookup t (.map (some b)) key true).run P w = .ok (.tuple #[v, .bool true]) w := by
  obtain ⟨es, clock, hb, hF, hg⟩ := h
  rcases Go.Maps.fit_look true K ht hz hb hF hkey with ⟨hrun, _⟩ | ⟨e0, y, hm, hk, hrun, _⟩
  · exact Or.inl hrun
  · exact Or.inr ⟨e0.val, hk ▸ (hg e0 hm).1, hrun⟩
theorem memo.put (h : memo P k F L b w) {t e : TypeId} (K : Go.Maps.Keyed P k) (ht : P.underlying t = some (.map k e)) (hL : L.length < maxLen) {key val : Value} {kl : Lit} (hkey : keyOf P k key = some kl) (hv : F key val) (hi : key ∈ L) :
    ∃ w', (Instr.mapUpdate t (.map (some b)) key val).run P w = .ok () w' ∧ memo P k F L b w' ∧ w.grownBy w' (some b) := by
  classical
  obtain ⟨es, clock, hb, hF, hg⟩ := h
  have hs : es.size < maxLen := by
    have := nodup_le (L := L) hF.stamped.2.2 (fun x hx => by
      obtain ⟨y, hy, rfl⟩ := List.mem_map.1 hx
      exact (hg y hy).2)
    simp at this
    omega
  obtain ⟨es', clock', hrun, hF', _, _, _, hall⟩ := Go.Maps.fit_store (R' := anyR) K ht hb hF hs (fun _ _ _ _ hz => hz) hkey (yv := (.nil, [])) rfl
  refine ⟨_, hrun, ⟨es', clock', ChangeMaps.heap_setBlock_same hb _, hF', fun x hx => ?_⟩, ⟨rfl, rfl, rfl, by simp [ChangeMaps.setBlock], fun i _ hi => ChangeMaps.heap_setBlock_other hb _ (fun e => hi (by rw [e]))⟩⟩
  rcases hall x hx with ⟨h1, _⟩ | ⟨h1, h2⟩
  · exact hg x h1
  · exact ⟨by rw [h1, h2]; exact hv, by rw [h1]; exact hi⟩
end
section
variable {P : Program} (w : World) {ops : Array Oper} {rest : List Oper} {o : Oper} {a : Act} {Q : Exit → Act → World → Prop}
theorem wpList_memo_look (hg : o.guard = none) (m x : Operand) (t : TypeId) (hop : o.op = Op.lookup t m x true)
    (k e : TypeId) (K : Go.Maps.Keyed P k) (ht : P.underlying t = some (.map k e)) {z : Value} (hz : (zeroValue e).run P w = .ok z w) (F : Value → Value → Prop) (L : List Value) (b : Nat)
    (hm : a.eval m = .map (some b)) (hown : memo P k F L b w) (key : Value) (kl : Lit) (hx : a.eval x = key) (hkey : keyOf P k key = some kl)
    (h0 : wpList P ops Q rest (a.put o.dst (.tuple #[z, .bool false])) w) (h1 : ∀ v, F key v → wpList P ops Q rest (a.put o.dst (.tuple #[v, .bool true])) w) :
    wpList P ops Q (o :: rest) a w := by
  refine wpList_plain hg fun K' hK' => ?_
  unfold Oper.wp
  rcases hown.look K ht hz hkey with hrun | ⟨v, hv, hrun⟩
  · simp [execOp, hop, hm, hx, hrun, Result.andThen]
    exact hK' _ _ h0
  · simp [execOp, hop, hm, hx, hrun, Result.andThen]
    exact hK' _ _ (h1 v hv)
theorem wpList_memo_put (hg : o.guard = none) (m x v : Operand) (t : TypeId) (hop : o.op = Op.mapUpdate t m x v)
    (k e : TypeId) (K : Go.Maps.Keyed P k) (ht : P.underlying t = some (.map k e)) (F : Value → Value → Prop) (L : List Value) (b : Nat) (hL : L.length < maxLen)
    (hm : a.eval m = .map (some b)) (hown : memo P k F L b w) (key val : Value) (kl : Lit) (hx : a.eval x = key) (hv : a.eval v = val) (hkey : keyOf P k key = some kl) (hF : F key val) (hi : key ∈ L)
    (hK : ∀ w', memo P k F L b w' → w.grownBy w' (some b) → wpList P ops Q rest (a.put o.dst undef) w') :
    wpList P ops Q (o :: rest) a w := by
  refine wpList_plain hg fun K' hK' => ?_
  obtain ⟨w', hrun, r1, r2⟩ := hown.put K ht hL hkey hF hi
  unfold Oper.wp
  simp [execOp, hop, hm, hx, hv, hrun, Result.andThen]
  exact hK' _ _ (hK w' r1 r2)
end
end Go.Proofs.Ytnoejflancomaaa.P
end

section
namespace Go.Proofs.Ytnoejflancomaaa.P
set_option linter.unusedVariables false
set_option linter.unusedSimpArgs false
open Go Go.RowKit Go.Proofs.YtnoejflancomaaaW.PrintWords Go.Proofs.YtnoejflancomaaaW.PrintLast Go.Proofs.YtnoejflancomaaaW.PrintMore
open Go.Maps (Keyed has IsMap)
section
variable {P : Program} {k : TypeId} {κ : Type} {kv : κ → Value} {kl : κ → Lit} {U : List κ}
structure KeyRep (P : Program) (k : TypeId) (kv : κ → Value) (kl : κ → Lit) (U : List κ) : Prop where
  K : Keyed P k
  key : ∀ u ∈ U, keyOf P k (kv u) = some (kl u)
  inj : ∀ u v, kv u = kv v → u = v
  int : P.underlying 3 = some (.int .i64)
  zero : ∀ w : World, (zeroValue 3).run P w = .ok (.int .i64 0) w
theorem KeyRep.kl_inj (r : KeyRep P k kv kl U) {u v : κ} (hu : u ∈ U) (hv : v ∈ U) (h : kl u = kl v) : u = v :=
  r.inj u v (r.K.inj (r.key u hu) ((r.key v hv).trans (by rw [h])))
theorem KeyRep.isKey (r : KeyRep P k kv kl U) {u : κ} (hu : u ∈ U) : WideAt.IsKeyLit (kl u) := r.K.key (r.key u hu)
structure Tells (kl : κ → Lit) (U : List κ) (g : κ → Int) (D : DataW Unit) : Prop where
  at_ : ∀ u ∈ U, D.atKey (kl u) (.lit (.int .i64 0)) = .lit (.int .i64 (g u))
  mem : ∀ l, has D l = true → ∃ u ∈ U, l = kl u
  isMap : IsMap D
  wf : ∀ u ∈ U, (Lit.int .i64 (g u)).wf = true
theorem atKey_missing {D : DataW Unit} (hD : IsMap D) {l : Lit} (h : has D l = false) (z : DataW Unit) : D.atKey l z = z := by
  obtain ⟨es, rfl⟩ := hD
  rw [Maps.has_eq] at h
  unfold DataW.atKey
  have : es.find? (fun p => p.1.sameKey l) = none := List.find?_eq_none.2 (fun p hp => by
    have := List.any_eq_false.1 h p hp
    simpa using this)
  simp [this]
def cmap (P : Program) (k : TypeId) (kl : κ → Lit) (U : List κ) (g : κ → Int) (n b : Nat) (w : World) : Prop :=
  ∃ D : DataW Unit, w.ownsMap P k (plainElem P 3) b n D ∧ Tells kl U g D
def crange (P : Program) (k : TypeId) (kl : κ → Lit) (U : List κ) (g : κ → Int) (left : κ → Bool) (cnt n b r : Nat) (w : World) : Prop :=
  ∃ (D : DataW Unit) (lf : Lit → Bool), w.ranges P k (plainElem P 3) b r n D lf cnt ∧ Tells kl U g D ∧ (∀ u ∈ U, left u = lf (kl u)) ∧ ∀ l, lf l = true → ∃ u ∈ U, l = kl u
variable {g : κ → Int} {left : κ → Bool} {cnt n b r : Nat} {w w' : World}
theorem cmap.lt (h : cmap P k kl U g n b w) : b < w.heap.size := by obtain ⟨D, h, _⟩ := h; exact h.lt
theorem cmap.mono (h : cmap P k kl U g n b w) {m : Nat} (hm : n ≤ m) : cmap P k kl U g m b w := by obtain ⟨D, h, t⟩ := h; exact ⟨D, h.mono hm, t⟩
theorem cmap.kept (h : cmap P k kl U g n b w) {row : Option Nat} (hg : w.grownBy w' row) (hne : some b ≠ row) : cmap P k kl U g n b w' := by obtain ⟨D, h, t⟩ := h; exact ⟨D, h.kept hg hne, t⟩
theorem cmap.below (h : cmap P k kl U g n b w) (hb : Below w.heap.size w w') : cmap P k kl U g n b w' := h.kept (grown_of_below hb none) (by simp)
theorem cmap.alloc (h : cmap P k kl U g n b w) (o : Obj) : cmap P k kl U g n b (w.alloc o) := h.below (below_alloc (Below.refl _ _) o)
theorem cmap.drew (h : cmap P k kl U g n b w) : cmap P k kl U g n b w.drew := h
theorem cmap.set (h : cmap P k kl U g n b w) {p : Addr} (hp : p.block ≠ b) (u : Value) : cmap P k kl U g n b (w.setCell p u) := by
  obtain ⟨D, ⟨es, c, h1, h2, h3, h4⟩, t⟩ := h
  exact ⟨D, ⟨es, c, (Below.heap_setCell _ _ _ _ (fun e => hp e.symm)).trans h1, h2, h3, h4⟩, t⟩
theorem cmap.congr (h : cmap P k kl U g n b w) {g' : κ → Int} (e : ∀ u ∈ U, g' u = g u) : cmap P k kl U g' n b w := by
  obtain ⟨D, h, t⟩ := h
  exact ⟨D, h, ⟨fun u hu => by rw [e u hu]; exact t.at_ u hu, t.mem, t.isMap, fun u hu => by rw [e u hu]; exact t.wf u hu⟩⟩
theorem cmap.wf (h : cmap P k kl U g n b w) {u : κ} (hu : u ∈ U) : (Lit.int .i64 (g u)).wf = true := by obtain ⟨D, _, t⟩ := h; exact t.wf u hu
theorem cmap_made (w : World) : cmap P k kl U (fun _ => 0) 0 w.heap.size (w.alloc (.map #[] 0)) :=
  ⟨.map [], World.ownsMap_made w P k _, fun _ _ => rfl, fun l hl => by simp [has] at hl, ⟨[], rfl⟩, fun _ _ => by decide⟩
theorem crange.owns (h : crange P k kl U g left cnt n b r w) : cmap P k kl U g n b w := by obtain ⟨D, lf, h, t, _⟩ := h; exact ⟨D, h.owns, t⟩
theorem crange.ne (h : crange P k kl U g left cnt n b r w) : r ≠ b := by obtain ⟨D, lf, h, _⟩ := h; exact h.ne
theorem crange.lt (h : crange P k kl U g left cnt n b r w) : r < w.heap.size := by obtain ⟨D, lf, h, _⟩ := h; exact h.lt
theorem crange.left_eq (h : crange P k kl U g left cnt n b r w) : w.rangeLeft b r = cnt := by obtain ⟨D, lf, h, _⟩ := h; exact h.left_eq
theorem crange.kept (h : crange P k kl U g left cnt n b r w) {row : Option Nat} (hg : w.grownBy w' row) (h1 : some b ≠ row) (h2 : some r ≠ row) : crange P k kl U g left cnt n b r w' := by
  obtain ⟨D, lf, h, t⟩ := h
  exact ⟨D, lf, h.kept hg h1 h2, t⟩
theorem crange.below (h : crange P k kl U g left cnt n b r w) (hb : Below w.heap.size w w') : crange P k kl U g left cnt n b r w' := h.kept (grown_of_below hb none) (by simp) (by simp)
theorem crange.alloc (h : crange P k kl U g left cnt n b r w) (o : Obj) : crange P k kl U g left cnt n b r (w.alloc o) := h.below (below_alloc (Below.refl _ _) o)
theorem crange.drew (h : crange P k kl U g left cnt n b r w) : crange P k kl U g left cnt n b r w.drew := h.below (below_drew (Below.refl _ _))
theorem cmap.tight (h : cmap P k kl U g n b w) (R : KeyRep P k kv kl U) : cmap P k kl U g U.length b w := by
  classical
  obtain ⟨D, hD, T⟩ := h
  obtain ⟨es', e1, hap, _⟩ := hD.entries R.K
  obtain ⟨es, clock, hb, F, hs, hD2⟩ := hD
  refine ⟨D, ⟨es, clock, hb, F, ?_, hD2⟩, T⟩
  have hl : es.size = es'.length := by
    have : es' = (es.toList.map (WideElems.rg P k (plainElem P 3))).foldr DataW.insert [] := by
      have := e1.symm.trans hD2
      simpa using this
    rw [this, length_sorted]
    simp
  have hn : (es'.map (·.1)).Nodup := by
    rw [List.nodup_iff_pairwise_ne, List.pairwise_map]
    exact hap
  have := nodup_le (L := U.map kl) hn (fun l hl => by
    obtain ⟨p, hp, rfl⟩ := List.mem_map.1 hl
    have hh : has D p.1 = true := by
      rw [e1, Maps.has_eq]
      exact List.any_eq_true.2 ⟨p, hp, WideAt.sameKey_self (by
        obtain ⟨es2, e2, _, hk⟩ := (show w.ownsMap P k (plainElem P 3) b n D from ⟨es, clock, hb, F, hs, hD2⟩).entries R.K
        have e3 : es' = es2 := by have := e1.symm.trans e2; simpa using this
        exact hk p (e3 ▸ hp))⟩
    obtain ⟨u, hu, e⟩ := T.mem p.1 hh
    exact List.mem_map.2 ⟨u, hu, e.symm⟩)
  simp at this
  omega
theorem cmap.look (h : cmap P k kl U g n b w) (R : KeyRep P k kv kl U) {t : TypeId} (ht : P.underlying t = some (.map k 3)) {u : κ} (hu : u ∈ U) : (Instr.lookup t (.map (some b)) (kv u) false).run P w = .ok (.int .i64 (g u)) w := by
  obtain ⟨D, h, T⟩ := h
  obtain ⟨c, hrun, hat, _⟩ := h.lookup_int R.K ht R.int (R.zero w) (R.key u hu)
  rw [T.at_ u hu] at hat
  simp only [DataW.lit.injEq, Lit.int.injEq, true_and] at hat
  rw [hrun, hat]
variable {ops : Array Oper} {rest : List Oper} {o : Oper} {a : Act} {Q : Exit → Act → World → Prop}
theorem wpList_cmap_range (hg : o.guard = none) (m : Operand) (t : TypeId) (hop : o.op = Op.range t m) (R : KeyRep P k kv kl U) (ht : P.underlying t = some (.map k 3)) (g : κ → Int) (n b : Nat)
    (hm : a.eval m = .map (some b)) (hown : cmap P k kl U g n b w)
    (hK : ∀ w' left cnt, crange P k kl U g left cnt n b w.heap.size w' → (∀ u ∈ U, left u = false → g u = 0) → w.grownBy w' none → w'.heap.size = w.heap.size + 1 → wpList P ops Q rest (a.put o.dst (.pointer (some ⟨w.heap.size, 0, none⟩))) w') :
    wpList P ops Q (o :: rest) a w := by
  obtain ⟨D, h, T⟩ := hown
  refine wpList_range_own w hg m t hop k 3 R.K ht _ b n D hm h fun w' h1 h2 h3 => ?_
  refine hK w' (fun u => has D (kl u)) (Maps.size D) ⟨D, has D, h1, T, fun _ _ => rfl, fun l hl => T.mem l hl⟩ (fun u hu hl => ?_) h2 h3
  have := T.at_ u hu
  rw [atKey_missing T.isMap hl] at this
  simpa using this.symm
theorem wpList_cmap_look (hg : o.guard = none) (m x : Operand) (t : TypeId) (hop : o.op = Op.lookup t m x false) (R : KeyRep P k kv kl U) (ht : P.underlying t = some (.map k 3)) (g : κ → Int) (n b : Nat)
    (hm : a.eval m = .map (some b)) (hown : cmap P k kl U g n b w) {u : κ} (hu : u ∈ U) (hx : a.eval x = kv u)
    (hK : wpList P ops Q rest (a.put o.dst (.int .i64 (g u))) w) :
    wpList P ops Q (o :: rest) a w := by
  refine wpList_plain hg fun K' hK' => ?_
  unfold Oper.wp
  simp [execOp, hop, hm, hx, hown.look R ht hu, Result.andThen]
  exact hK' _ _ hK
variable [DecidableEq κ]
def upd (g : κ → Int) (u : κ) (v : Int) : κ → Int := fun x => if x = u then v else g x
theorem Tells.put {g : κ → Int} {D : DataW Unit} (h : Tells kl U g D) (r : KeyRep P k kv kl U) {u : κ} (hu : u ∈ U) {v : Int} (hv : (Lit.int .i64 v).wf = true) : Tells kl U (upd g u v) (D.put (kl u) (.lit (.int .i64 v))) where
  at_ x hx := by
    unfold upd
    by_cases e : x = u
    · subst e
      rw [if_pos rfl]
      exact Maps.atKey_put_same h.isMap (r.isKey hx) _ _
    · rw [if_neg e, Maps.atKey_put_other (fun c => e (r.kl_inj hx hu c))]
      exact h.at_ x hx
  mem l hl := by
    by_cases e : l = kl u
    · exact ⟨u, hu, e⟩
    · rw [Maps.has_put_other e] at hl
      exact h.mem l hl
  isMap := h.isMap.put _ _
  wf x hx := by
    unfold upd
    split
    · exact hv
    · exact h.wf x hx
theorem cmap.put (h : cmap P k kl U g n b w) (R : KeyRep P k kv kl U) {t : TypeId} (ht : P.underlying t = some (.map k 3)) (hn : n < maxLen) {u : κ} (hu : u ∈ U) {v : Int} (hv : (Lit.int .i64 v).wf = true) :
    ∃ w', (Instr.mapUpdate t (.map (some b)) (kv u) (.int .i64 v)).run P w = .ok () w' ∧ cmap P k kl U (upd g u v) (n + 1) b w' ∧ w.grownBy w' (some b) := by
  obtain ⟨D, h, T⟩ := h
  obtain ⟨w', hrun, h1, h2⟩ := h.update R.K ht hn (R.key u hu) (plainElem_int R.int hv)
  exact ⟨w', hrun, ⟨_, h1, T.put R hu hv⟩, h2⟩
theorem cmap.entry (h : cmap P k kl U g n b w) (R : KeyRep P k kv kl U) (L : WideMaps.KeyLaw P k) {t : TypeId} (ht : P.underlying t = some (.map k 3)) (hn : n < maxLen) {u : κ} (hu : u ∈ U) :
    ∃ (v0 : Value) (st : Nat) (w3 : World), (Instr.mapEntry t (.map (some b)) (kv u)).run P w = .ok (.tuple #[v0, goInt st]) w3 ∧ w.grownBy w3 (some b) ∧
      (Instr.lookup t (.map (some b)) (kv u) false).run P w3 = .ok (.int .i64 (g u)) w3 ∧
      ∀ v : Int, (Lit.int .i64 v).wf = true → ∃ w4, (Instr.entryStore t (.map (some b)) (goInt st) (.int .i64 v)).run P w3 = .ok () w4 ∧ cmap P k kl U (upd g u v) (n + 1) b w4 ∧ w3.grownBy w4 (some b) := by
  have hlook := h.look R ht hu
  have hall := fun v hv => h.put R ht hn hu (v := v) hv
  obtain ⟨D, ⟨es, clock, hb, F, hs, hD⟩, T⟩ := h
  obtain ⟨v0, st, es1, clock1, hrun, hv0, hst⟩ := WideElems.entry_then_store L ht (z := .int .i64 0) R.zero hb F (R.key u hu)
  have hw3 : (ChangeMaps.setBlock w b (.map es1 clock1)).heap[b]? = some (.map es1 clock1) := ChangeMaps.heap_setBlock_same hb _
  have hg3 : w.grownBy (ChangeMaps.setBlock w b (.map es1 clock1)) (some b) := ⟨rfl, rfl, rfl, by simp [ChangeMaps.setBlock], fun i _ hi => ChangeMaps.heap_setBlock_other hb _ (fun e => hi (by rw [e]))⟩
  refine ⟨v0, st, _, hrun, hg3, ?_, fun v hv => ?_⟩
  · rcases R.K.find w (R.key u hu) es.toList F.keys with ⟨h1, h2⟩ | ⟨j, e0, h1, h2, h3⟩
    · have hr1 : (Instr.mapEntry t (.map (some b)) (kv u)).run P w = .ok (.tuple #[.int .i64 0, goInt clock]) (ChangeMaps.setBlock w b (.map (es.push ⟨kv u, .int .i64 0, clock⟩) (clock + 1))) := by
        simp [Instr.mapEntry, Go.run_underlying ht, MapKept.run_getObj_map hb, R.K.check w false (R.key u hu), h1, R.zero, MapKept.run_setObj_map _ hb, Result.andThen, ChangeMaps.setBlock]
      have hr2 : (Instr.mapUpdate t (.map (some b)) (kv u) (.int .i64 0)).run P w = .ok () (ChangeMaps.setBlock w b (.map (es.push ⟨kv u, .int .i64 0, clock⟩) (clock + 1))) := by
        simp [Instr.mapUpdate, Go.run_underlying ht, MapKept.run_getObj_map hb, R.K.check w false (R.key u hu), h1, MapKept.run_setObj_map _ hb, Result.andThen, ChangeMaps.setBlock]
      have hr3 : (Instr.lookup t (.map (some b)) (kv u) false).run P w = .ok (.int .i64 0) w := by
        rcases Maps.fit_look false R.K ht (R.zero w) hb F (R.key u hu) with ⟨hq, _⟩ | ⟨e1, y, hm, hk, _⟩
        · exact hq
        · exact absurd hk (h2 e1 hm)
      have hg0 : g u = 0 := by
        rw [hlook] at hr3
        simpa using hr3
      obtain ⟨w', hq, hc, _⟩ := hall 0 (by decide)
      rw [hr2] at hq
      simp only [Result.ok.injEq, true_and] at hq
      rw [hr1] at hrun
      simp only [Result.ok.injEq] at hrun
      have hl := hc.look R ht hu
      rw [← hq, hrun.2] at hl
      rw [hl]
      simp [upd, hg0]
    · have hj : es[j]? = some e0 := by simpa using h2
      have hsame : es.modify j (fun e => { e with key := kv u }) = es := by
        apply Array.ext'
        rw [Array.toList_modify, ChangeMaps.modify_eq_set _ _ _ _ h2]
        have : ({ e0 with key := kv u } : MapEntry) = e0 := by rw [← h3]
        rw [this]
        exact WideElems.set_self _ _ _ h2
      have hr1 : (Instr.mapEntry t (.map (some b)) (kv u)).run P w = .ok (.tuple #[e0.val, goInt e0.born]) (ChangeMaps.setBlock w b (.map es clock)) := by
        simp [Instr.mapEntry, Go.run_underlying ht, MapKept.run_getObj_map hb, R.K.check w false (R.key u hu), h1, hj, h3, R.K.stays w (R.key u hu), hsame, MapKept.run_setObj_map _ hb, Result.andThen, ChangeMaps.setBlock]
      rw [hr1] at hrun
      simp only [Result.ok.injEq] at hrun
      rw [← hrun.2]
      have hc : cmap P k kl U g n b (ChangeMaps.setBlock w b (.map es clock)) := ⟨D, ⟨es, clock, ChangeMaps.heap_setBlock_same hb _, F, hs, hD⟩, T⟩
      exact hc.look R ht hu
  · obtain ⟨es', clock', h1, h2⟩ := hst (ChangeMaps.setBlock w b (.map es1 clock1)) (.int .i64 v) hw3
    obtain ⟨w', hrun', hc, hg'⟩ := hall v hv
    rw [h2] at hrun'
    simp only [Result.ok.injEq, true_and] at hrun'
    subst hrun'
    have e2 : ChangeMaps.setBlock (ChangeMaps.setBlock w b (.map es1 clock1)) b (.map es' clock') = ChangeMaps.setBlock w b (.map es' clock') := by
      simp [ChangeMaps.setBlock]
    refine ⟨_, h1, ?_, ?_⟩
    · rw [e2]; exact hc
    · exact ⟨rfl, rfl, rfl, by simp [ChangeMaps.setBlock], fun i _ hi => ChangeMaps.heap_setBlock_other hw3 _ (fun e => hi (by rw [e]))⟩
theorem wpList_cmap_next (hg : o.guard = none) (it : Operand) (hop : o.op = Op.next it false) (R : KeyRep P k kv kl U) (g : κ → Int) (left : κ → Bool) (cnt n b r : Nat)
    (hit : a.eval it = .pointer (some ⟨r, 0, none⟩)) (h : crange P k kl U g left cnt n b r w)
    (hDone : (∀ u ∈ U, left u = false) → wpList P ops Q rest (a.put o.dst (.tuple #[.bool false])) w)
    (hMore : ∀ u, u ∈ U → left u = true → ∀ (w' : World) (cnt' : Nat), crange P k kl U g (fun x => left x && !decide (x = u)) cnt' n b r w' → cnt' < cnt → w.grownBy w' (some r) → w'.heap.size = w.heap.size →
      (Instr.entry (.pointer (some ⟨r, 0, none⟩))).run P w' = .ok (.tuple #[kv u, .int .i64 (g u)]) w' → wpList P ops Q rest (a.put o.dst (.tuple #[.bool true, kv u, .int .i64 (g u)])) w') :
    wpList P ops Q (o :: rest) a w := by
  obtain ⟨D, lf, h, T, hl, hm⟩ := h
  refine wpList_next_ranges w hg it hop k R.K (plainElem P 3) id (Value.int .i64) (fun key kl _ => ⟨key, rfl⟩) (fun v y hv => by obtain ⟨c, rfl, _⟩ := plainElem_int_inv R.int hv; exact ⟨c, rfl⟩) b r n D lf cnt hit h (fun _ hz => hDone (fun u hu => by rw [hl u hu, hz])) ?_
  intro x c l y w' cnt' hkey hlk hv hat hrg hlt hgr hsz hen
  obtain ⟨u, hu, rfl⟩ := hm l hlk
  obtain rfl : x = kv u := R.K.inj hkey (R.key u hu)
  obtain ⟨c', ec, hy, _⟩ := plainElem_int_inv R.int hv
  cases ec
  have hc := T.at_ u hu
  rw [hat, hy] at hc
  simp only [DataW.lit.injEq, Lit.int.injEq, true_and] at hc
  subst hc
  refine hMore u hu (by rw [hl u hu, hlk]) w' cnt' ⟨D, _, hrg, T, fun x hx => ?_, fun l hl' => hm l (by simp only [Bool.and_eq_true] at hl'; exact hl'.1)⟩ hlt hgr hsz hen
  show (left x && !decide (x = u)) = (lf (kl x) && !(kl x).sameKey (kl u))
  rw [hl x hx]
  congr 2
  by_cases e : x = u
  · subst e
    rw [decide_eq_true rfl, WideAt.sameKey_self (R.isKey hx)]
  · rw [decide_eq_false e, Maps.sameKey_ne (fun c => e (R.kl_inj hx hu c))]
theorem wpList_cmap_put (hg : o.guard = none) (m x v : Operand) (t : TypeId) (hop : o.op = Op.mapUpdate t m x v ∨ o.op = Op.insert t m x v) (R : KeyRep P k kv kl U) (ht : P.underlying t = some (.map k 3)) (g : κ → Int) (n b : Nat) (hn : n < maxLen)
    (hm : a.eval m = .map (some b)) (hown : cmap P k kl U g n b w) {u : κ} (hu : u ∈ U) (hx : a.eval x = kv u) {c : Int} (hv : a.eval v = .int .i64 c) (hc : (Lit.int .i64 c).wf = true)
    (hK : ∀ w', cmap P k kl U (upd g u c) (n + 1) b w' → w.grownBy w' (some b) → wpList P ops Q rest (a.put o.dst undef) w') :
    wpList P ops Q (o :: rest) a w := by
  refine wpList_plain hg fun K' hK' => ?_
  obtain ⟨w', hrun, r1, r2⟩ := hown.put R ht hn hu hc
  unfold Oper.wp
  rcases hop with hop | hop
  · simp [execOp, hop, hm, hx, hv, hrun, Result.andThen]
    exact hK' _ _ (hK w' r1 r2)
  · simp [execOp, hop, hm, hx, hv, hrun, Result.andThen]
    exact hK' _ _ (hK w' r1 r2)
end
end Go.Proofs.Ytnoejflancomaaa.P
end

section
namespace Go.Proofs.Ytnoejflancomaaa.P
open Go.RowKit Go.Proofs.YtnoejflancomaaaW.PrintWords Go.Proofs.YtnoejflancomaaaW.PrintLast Go.Proofs.YtnoejflancomaaaW.PrintMore
attribute [local go_sem] max2_int min2_int max_two min_two max_three min_three max_four min_four
set_option linter.unusedVariables false
set_option linter.unusedSimpArgs false
def impl_Board_landing.f (a0_0 : Int) (a0_1 : Int) (a0_2 : Int) (l0_3 : List (S76)) (a1 : Int) (a2 : Int) : Option (Int × Bool) := if a1 = a0_0 then (some (a1, false)) else (if (wrap64 (a1 + a2)) ≤ a0_0 then (some (wrap64 (a1 + a2), true)) else (if a0_2 = 1 then (some (a0_0, true)) else (if a0_2 = 2 then (if (wrap64 ((wrap64 (2 * a0_0)) - (wrap64 (a1 + a2)))) ≥ 0 then (some (wrap64 ((wrap64 (2 * a0_0)) - (wrap64 (a1 + a2))), true)) else (some (a1, false))) else (some (a1, false)))))
set_option maxHeartbeats 8000000 in
set_option maxRecDepth 100000 in
theorem impl_Board_landing.calls (a0_0 : Int) (a0_1 : Int) (a0_2 : Int) (A0_3 : Option Addr) (c0_3 : Nat) (l0_3 : List (S76)) (a1 : Int) (a2 : Int) (r1 : Int) (r2 : Bool) (w : World) (hr0_3 : Kd.C k76 w A0_3 l0_3.length l0_3) (hc0_3 : l0_3.length ≤ c0_3) (h : impl_Board_landing.f a0_0 a0_1 a0_2 l0_3 a1 a2 = some (r1, r2)) :
    Calls Try.prog 165 #[.agg #[.int .i64 a0_0, .int .i64 a0_1, .int .i64 a0_2, .slice A0_3 l0_3.length c0_3], .int .i64 a1, .int .i64 a2] w fun e w' => e = .returned (.tuple #[.int .i64 r1, .bool r2]) ∧ Below w.heap.size w w' := by
  have hu24 := Try.underlying24
  have HR0_3 := Aside0.mk hr0_3
  have HC0_3 := Aside0.mk hc0_3
  clear hr0_3 hc0_3
  have HB := Aside0.mk (Below.refl w.heap.size w)
  have H : (if a1 = a0_0 then (some (a1, false)) else (if (wrap64 (a1 + a2)) ≤ a0_0 then (some (wrap64 (a1 + a2), true)) else (if a0_2 = 1 then (some (a0_0, true)) else (if a0_2 = 2 then (if (wrap64 ((wrap64 (2 * a0_0)) - (wrap64 (a1 + a2)))) ≥ 0 then (some (wrap64 ((wrap64 (2 * a0_0)) - (wrap64 (a1 + a2))), true)) else (some (a1, false))) else (some (a1, false)))))) = some (r1, r2) := h
  clear h
  by_cases c4 : a1 = a0_0
  · rw [if_pos c4] at H
    have c4b0 : (a1 == a0_0) = true := beq_iff_eq.mpr c4
    have c4b1 : (a1 != a0_0) = false := bne_eq_false_iff_eq.mpr c4
    clear c4
    simp only [Option.some.injEq, Prod.mk.injEq] at H
    obtain ⟨rfl, rfl⟩ := H
    go_enter Try.func165, Try.ntmps165
    go_wp2_with (first | ((with_reducible refine gate_dst (N := 3) rfl ?_); refine box_event ?hg (N := 3) ?hd (cs := #[.int .i64 a0_0, .int .i64 a0_1, .int .i64 a0_2, .slice A0_3 l0_3.length c0_3]) (t := 24) ?hr ?_; (case hd => rfl); (case hg => rfl); (case hr => first | (go_simp; done) | (go_simp; rfl)); intro gb402 hg w5 hbox hb; have n0_ := Aside0.mk (below_step (by repeat (first | (with_reducible first | exact HB.out | apply below_alloc | apply pw_below_drewN | apply below_drew1) | exact HB.out)) hb); have n1_ := Aside0.mk (hbox); have n2_ := Aside0.mk ((by rw [hg]; exact (below_size (by repeat (first | (with_reducible first | exact HB.out | apply below_alloc | apply pw_below_drewN | apply below_drew1) | exact HB.out))) : w.heap.size ≤ gb402)); have n3_ := Aside0.mk ((by rw [hg]; exact (below_size (by repeat (first | (with_reducible first | exact HB.out | apply below_alloc | apply pw_below_drewN | apply below_drew1) | exact HB.out))) : w.heap.size ≤ gb402)); clear HB; have HB := n0_; have BK402 := n1_; have GW402 := n2_; have GE402 := n3_; clear n0_ n1_ n2_ n3_; clear hb hbox hg; have hcz6_0 : w5.cell? ⟨gb402, 0, none⟩ = some (.int .i64 a0_0) := (blk_cell BK402.out 0).trans rfl; have hcz6_1 : w5.cell? ⟨gb402, 1, none⟩ = some (.int .i64 a0_1) := (blk_cell BK402.out 1).trans rfl; have hcz6_2 : w5.cell? ⟨gb402, 2, none⟩ = some (.int .i64 a0_2) := (blk_cell BK402.out 2).trans rfl; have hcz6_3 : w5.cell? ⟨gb402, 3, none⟩ = some (.slice A0_3 l0_3.length c0_3) := (blk_cell BK402.out 3).trans rfl; have hfz6_0 := blk_frozen BK402.out 0; have hfz6_1 := blk_frozen BK402.out 1; have hfz6_2 := blk_frozen BK402.out 2; have hfz6_3 := blk_frozen BK402.out 3))
    go_ret2
    exact ⟨by first | rfl | (simp [errW_none, errW_some] <;> rfl) | (simp [*, errW_none, errW_some] <;> rfl), by repeat (first | (with_reducible first | exact HB.out | apply below_alloc | apply pw_below_drewN | apply below_drew1 | refine below_set ?_ GE402.out) | exact HB.out)⟩
  · rw [if_neg c4] at H
    have c4b0 : (a1 == a0_0) = false := beq_eq_false_iff_ne.mpr c4
    have c4b1 : (a1 != a0_0) = true := bne_iff_ne.mpr c4
    by_cases c7 : (wrap64 (a1 + a2)) ≤ a0_0
    · rw [if_pos c7] at H
      have c7b0 : decide ((wrap64 (a1 + a2)) ≤ a0_0) = true := decide_eq_true c7
      clear c7
      simp only [Option.some.injEq, Prod.mk.injEq] at H
      obtain ⟨rfl, rfl⟩ := H
      go_enter Try.func165, Try.ntmps165
      go_wp2_with (first | ((with_reducible refine gate_dst (N := 3) rfl ?_); refine box_event ?hg (N := 3) ?hd (cs := #[.int .i64 a0_0, .int .i64 a0_1, .int .i64 a0_2, .slice A0_3 l0_3.length c0_3]) (t := 24) ?hr ?_; (case hd => rfl); (case hg => rfl); (case hr => first | (go_simp; done) | (go_simp; rfl)); intro gb402 hg w8 hbox hb; have n0_ := Aside0.mk (below_step (by repeat (first | (with_reducible first | exact HB.out | apply below_alloc | apply pw_below_drewN | apply below_drew1) | exact HB.out)) hb); have n1_ := Aside0.mk (hbox); have n2_ := Aside0.mk ((by rw [hg]; exact (below_size (by repeat (first | (with_reducible first | exact HB.out | apply below_alloc | apply pw_below_drewN | apply below_drew1) | exact HB.out))) : w.heap.size ≤ gb402)); have n3_ := Aside0.mk ((by rw [hg]; exact (below_size (by repeat (first | (with_reducible first | exact HB.out | apply below_alloc | apply pw_below_drewN | apply below_drew1) | exact HB.out))) : w.heap.size ≤ gb402)); clear HB; have HB := n0_; have BK402 := n1_; have GW402 := n2_; have GE402 := n3_; clear n0_ n1_ n2_ n3_; clear hb hbox hg; have hcz9_0 : w8.cell? ⟨gb402, 0, none⟩ = some (.int .i64 a0_0) := (blk_cell BK402.out 0).trans rfl; have hcz9_1 : w8.cell? ⟨gb402, 1, none⟩ = some (.int .i64 a0_1) := (blk_cell BK402.out 1).trans rfl; have hcz9_2 : w8.cell? ⟨gb402, 2, none⟩ = some (.int .i64 a0_2) := (blk_cell BK402.out 2).trans rfl; have hcz9_3 : w8.cell? ⟨gb402, 3, none⟩ = some (.slice A0_3 l0_3.length c0_3) := (blk_cell BK402.out 3).trans rfl; have hfz9_0 := blk_frozen BK402.out 0; have hfz9_1 := blk_frozen BK402.out 1; have hfz9_2 := blk_frozen BK402.out 2; have hfz9_3 := blk_frozen BK402.out 3))
      go_ret2
      exact ⟨by first | rfl | (simp [errW_none, errW_some] <;> rfl) | (simp [*, errW_none, errW_some] <;> rfl), by repeat (first | (with_reducible first | exact HB.out | apply below_alloc | apply pw_below_drewN | apply below_drew1 | refine below_set ?_ GE402.out) | exact HB.out)⟩
    · rw [if_neg c7] at H
      have c7b0 : decide ((wrap64 (a1 + a2)) ≤ a0_0) = false := decide_eq_false c7
      clear c7
      by_cases c10 : a0_2 = 1
      · rw [if_pos c10] at H
        have c10b0 : (a0_2 == 1) = true := beq_iff_eq.mpr c10
        have c10b1 : (a0_2 != 1) = false := bne_eq_false_iff_eq.mpr c10
        clear c10
        simp only [Option.some.injEq, Prod.mk.injEq] at H
        obtain ⟨rfl, rfl⟩ := H
        go_enter Try.func165, Try.ntmps165
        go_wp2_with (first | ((with_reducible refine gate_dst (N := 3) rfl ?_); refine box_event ?hg (N := 3) ?hd (cs := #[.int .i64 a0_0, .int .i64 a0_1, .int .i64 a0_2, .slice A0_3 l0_3.length c0_3]) (t := 24) ?hr ?_; (case hd => rfl); (case hg => rfl); (case hr => first | (go_simp; done) | (go_simp; rfl)); intro gb402 hg w11 hbox hb; have n0_ := Aside0.mk (below_step (by repeat (first | (with_reducible first | exact HB.out | apply below_alloc | apply pw_below_drewN | apply below_drew1) | exact HB.out)) hb); have n1_ := Aside0.mk (hbox); have n2_ := Aside0.mk ((by rw [hg]; exact (below_size (by repeat (first | (with_reducible first | exact HB.out | apply below_alloc | apply pw_below_drewN | apply below_drew1) | exact HB.out))) : w.heap.size ≤ gb402)); have n3_ := Aside0.mk ((by rw [hg]; exact (below_size (by repeat (first | (with_reducible first | exact HB.out | apply below_alloc | apply pw_below_drewN | apply below_drew1) | exact HB.out))) : w.heap.size ≤ gb402)); clear HB; have HB := n0_; have BK402 := n1_; have GW402 := n2_; have GE402 := n3_; clear n0_ n1_ n2_ n3_; clear hb hbox hg; have hcz12_0 : w11.cell? ⟨gb402, 0, none⟩ = some (.int .i64 a0_0) := (blk_cell BK402.out 0).trans rfl; have hcz12_1 : w11.cell? ⟨gb402, 1, none⟩ = some (.int .i64 a0_1) := (blk_cell BK402.out 1).trans rfl; have hcz12_2 : w11.cell? ⟨gb402, 2, none⟩ = some (.int .i64 a0_2) := (blk_cell BK402.out 2).trans rfl; have hcz12_3 : w11.cell? ⟨gb402, 3, none⟩ = some (.slice A0_3 l0_3.length c0_3) := (blk_cell BK402.out 3).trans rfl; have hfz12_0 := blk_frozen BK402.out 0; have hfz12_1 := blk_frozen BK402.out 1; have hfz12_2 := blk_frozen BK402.out 2; have hfz12_3 := blk_frozen BK402.out 3))
        go_ret2
        exact ⟨by first | rfl | (simp [errW_none, errW_some] <;> rfl) | (simp [*, errW_none, errW_some] <;> rfl), by repeat (first | (with_reducible first | exact HB.out | apply below_alloc | apply pw_below_drewN | apply below_drew1 | refine below_set ?_ GE402.out) | exact HB.out)⟩
      · rw [if_neg c10] at H
        have c10b0 : (a0_2 == 1) = false := beq_eq_false_iff_ne.mpr c10
        have c10b1 : (a0_2 != 1) = true := bne_iff_ne.mpr c10
        by_cases c13 : a0_2 = 2
        · rw [if_pos c13] at H
          have c13b0 : (a0_2 == 2) = true := beq_iff_eq.mpr c13
          have c13b1 : (a0_2 != 2) = false := bne_eq_false_iff_eq.mpr c13
          clear c13
          by_cases c14 : (wrap64 ((wrap64 (2 * a0_0)) - (wrap64 (a1 + a2)))) ≥ 0
          · rw [if_pos c14] at H
            have c14b0 : decide (0 ≤ (wrap64 ((wrap64 (2 * a0_0)) - (wrap64 (a1 + a2))))) = true := decide_eq_true c14
            clear c14
            simp only [Option.some.injEq, Prod.mk.injEq] at H
            obtain ⟨rfl, rfl⟩ := H
            go_enter Try.func165, Try.ntmps165
            go_wp2_with (first | ((with_reducible refine gate_dst (N := 3) rfl ?_); refine box_event ?hg (N := 3) ?hd (cs := #[.int .i64 a0_0, .int .i64 a0_1, .int .i64 a0_2, .slice A0_3 l0_3.length c0_3]) (t := 24) ?hr ?_; (case hd => rfl); (case hg => rfl); (case hr => first | (go_simp; done) | (go_simp; rfl)); intro gb402 hg w15 hbox hb; have n0_ := Aside0.mk (below_step (by repeat (first | (with_reducible first | exact HB.out | apply below_alloc | apply pw_below_drewN | apply below_drew1) | exact HB.out)) hb); have n1_ := Aside0.mk (hbox); have n2_ := Aside0.mk ((by rw [hg]; exact (below_size (by repeat (first | (with_reducible first | exact HB.out | apply below_alloc | apply pw_below_drewN | apply below_drew1) | exact HB.out))) : w.heap.size ≤ gb402)); have n3_ := Aside0.mk ((by rw [hg]; exact (below_size (by repeat (first | (with_reducible first | exact HB.out | apply below_alloc | apply pw_below_drewN | apply below_drew1) | exact HB.out))) : w.heap.size ≤ gb402)); clear HB; have HB := n0_; have BK402 := n1_; have GW402 := n2_; have GE402 := n3_; clear n0_ n1_ n2_ n3_; clear hb hbox hg; have hcz16_0 : w15.cell? ⟨gb402, 0, none⟩ = some (.int .i64 a0_0) := (blk_cell BK402.out 0).trans rfl; have hcz16_1 : w15.cell? ⟨gb402, 1, none⟩ = some (.int .i64 a0_1) := (blk_cell BK402.out 1).trans rfl; have hcz16_2 : w15.cell? ⟨gb402, 2, none⟩ = some (.int .i64 a0_2) := (blk_cell BK402.out 2).trans rfl; have hcz16_3 : w15.cell? ⟨gb402, 3, none⟩ = some (.slice A0_3 l0_3.length c0_3) := (blk_cell BK402.out 3).trans rfl; have hfz16_0 := blk_frozen BK402.out 0; have hfz16_1 := blk_frozen BK402.out 1; have hfz16_2 := blk_frozen BK402.out 2; have hfz16_3 := blk_frozen BK402.out 3))
            go_ret2
            exact ⟨by first | rfl | (simp [errW_none, errW_some] <;> rfl) | (simp [*, errW_none, errW_some] <;> rfl), by repeat (first | (with_reducible first | exact HB.out | apply below_alloc | apply pw_below_drewN | apply below_drew1 | refine below_set ?_ GE402.out) | exact HB.out)⟩
          · rw [if_neg c14] at H
            have c14b0 : decide (0 ≤ (wrap64 ((wrap64 (2 * a0_0)) - (wrap64 (a1 + a2))))) = false := decide_eq_false c14
            clear c14
            simp only [Option.some.injEq, Prod.mk.injEq] at H
            obtain ⟨rfl, rfl⟩ := H
            go_enter Try.func165, Try.ntmps165
            go_wp2_with (first | ((with_reducible refine gate_dst (N := 3) rfl ?_); refine box_event ?hg (N := 3) ?hd (cs := #[.int .i64 a0_0, .int .i64 a0_1, .int .i64 a0_2, .slice A0_3 l0_3.length c0_3]) (t := 24) ?hr ?_; (case hd => rfl); (case hg => rfl); (case hr => first | (go_simp; done) | (go_simp; rfl)); intro gb402 hg w17 hbox hb; have n0_ := Aside0.mk (below_step (by repeat (first | (with_reducible first | exact HB.out | apply below_alloc | apply pw_below_drewN | apply below_drew1) | exact HB.out)) hb); have n1_ := Aside0.mk (hbox); have n2_ := Aside0.mk ((by rw [hg]; exact (below_size (by repeat (first | (with_reducible first | exact HB.out | apply below_alloc | apply pw_below_drewN | apply below_drew1) | exact HB.out))) : w.heap.size ≤ gb402)); have n3_ := Aside0.mk ((by rw [hg]; exact (below_size (by repeat (first | (with_reducible first | exact HB.out | apply below_alloc | apply pw_below_drewN | apply below_drew1) | exact HB.out))) : w.heap.size ≤ gb402)); clear HB; have HB := n0_; have BK402 := n1_; have GW402 := n2_; have GE402 := n3_; clear n0_ n1_ n2_ n3_; clear hb hbox hg; have hcz18_0 : w17.cell? ⟨gb402, 0, none⟩ = some (.int .i64 a0_0) := (blk_cell BK402.out 0).trans rfl; have hcz18_1 : w17.cell? ⟨gb402, 1, none⟩ = some (.int .i64 a0_1) := (blk_cell BK402.out 1).trans rfl; have hcz18_2 : w17.cell? ⟨gb402, 2, none⟩ = some (.int .i64 a0_2) := (blk_cell BK402.out 2).trans rfl; have hcz18_3 : w17.cell? ⟨gb402, 3, none⟩ = some (.slice A0_3 l0_3.length c0_3) := (blk_cell BK402.out 3).trans rfl; have hfz18_0 := blk_frozen BK402.out 0; have hfz18_1 := blk_frozen BK402.out 1; have hfz18_2 := blk_frozen BK402.out 2; have hfz18_3 := blk_frozen BK402.out 3))
            go_ret2
            exact ⟨by first | rfl | (simp [errW_none, errW_some] <;> rfl) | (simp [*, errW_none, errW_some] <;> rfl), by repeat (first | (with_reducible first | exact HB.out | apply below_alloc | apply pw_below_drewN | apply below_drew1 | refine below_set ?_ GE402.out) | exact HB.out)⟩
        · rw [if_neg c13] at H
          have c13b0 : (a0_2 == 2) = false := beq_eq_false_iff_ne.mpr c13
          have c13b1 : (a0_2 != 2) = true := bne_iff_ne.mpr c13
          simp only [Option.some.injEq, Prod.mk.injEq] at H
          obtain ⟨rfl, rfl⟩ := H
          go_enter Try.func165, Try.ntmps165
          go_wp2_with (first | ((with_reducible refine gate_dst (N := 3) rfl ?_); refine box_event ?hg (N := 3) ?hd (cs := #[.int .i64 a0_0, .int .i64 a0_1, .int .i64 a0_2, .slice A0_3 l0_3.length c0_3]) (t := 24) ?hr ?_; (case hd => rfl); (case hg => rfl); (case hr => first | (go_simp; done) | (go_simp; rfl)); intro gb402 hg w19 hbox hb; have n0_ := Aside0.mk (below_step (by repeat (first | (with_reducible first | exact HB.out | apply below_alloc | apply pw_below_drewN | apply below_drew1) | exact HB.out)) hb); have n1_ := Aside0.mk (hbox); have n2_ := Aside0.mk ((by rw [hg]; exact (below_size (by repeat (first | (with_reducible first | exact HB.out | apply below_alloc | apply pw_below_drewN | apply below_drew1) | exact HB.out))) : w.heap.size ≤ gb402)); have n3_ := Aside0.mk ((by rw [hg]; exact (below_size (by repeat (first | (with_reducible first | exact HB.out | apply below_alloc | apply pw_below_drewN | apply below_drew1) | exact HB.out))) : w.heap.size ≤ gb402)); clear HB; have HB := n0_; have BK402 := n1_; have GW402 := n2_; have GE402 := n3_; clear n0_ n1_ n2_ n3_; clear hb hbox hg; have hcz20_0 : w19.cell? ⟨gb402, 0, none⟩ = some (.int .i64 a0_0) := (blk_cell BK402.out 0).trans rfl; have hcz20_1 : w19.cell? ⟨gb402, 1, none⟩ = some (.int .i64 a0_1) := (blk_cell BK402.out 1).trans rfl; have hcz20_2 : w19.cell? ⟨gb402, 2, none⟩ = some (.int .i64 a0_2) := (blk_cell BK402.out 2).trans rfl; have hcz20_3 : w19.cell? ⟨gb402, 3, none⟩ = some (.slice A0_3 l0_3.length c0_3) := (blk_cell BK402.out 3).trans rfl; have hfz20_0 := blk_frozen BK402.out 0; have hfz20_1 := blk_frozen BK402.out 1; have hfz20_2 := blk_frozen BK402.out 2; have hfz20_3 := blk_frozen BK402.out 3))
          go_ret2
          exact ⟨by first | rfl | (simp [errW_none, errW_some] <;> rfl) | (simp [*, errW_none, errW_some] <;> rfl), by repeat (first | (with_reducible first | exact HB.out | apply below_alloc | apply pw_below_drewN | apply below_drew1 | refine below_set ?_ GE402.out) | exact HB.out)⟩
end Go.Proofs.Ytnoejflancomaaa.P
end

section
namespace Go.Proofs.Ytnoejflancomaaa.P
open Go.RowKit Go.Proofs.YtnoejflancomaaaW.PrintWords Go.Proofs.YtnoejflancomaaaW.PrintLast Go.Proofs.YtnoejflancomaaaW.PrintMore
attribute [local go_sem] max2_int min2_int max_two min_two max_three min_three max_four min_four
set_option linter.unusedVariables false
set_option linter.unusedSimpArgs false
def impl_Board_throw.f (a0_0 : Int) (a0_1 : Int) (a0_2 : Int) (l0_3 : List (S76)) (a1 : Int) (a2 : Int) : Option (Int) := (impl_Board_landing.f a0_0 a0_1 a0_2 l0_3 a1 a2).bind fun bt404 => (if bt404.2 = true then ((impl_Board_begins.f a0_0 a0_1 a0_2 l0_3 bt404.1).bind fun bt406 => (some bt406.1)) else (some a1))
set_option maxHeartbeats 8000000 in
set_option maxRecDepth 100000 in
theorem impl_Board_throw.calls (a0_0 : Int) (a0_1 : Int) (a0_2 : Int) (A0_3 : Option Addr) (c0_3 : Nat) (l0_3 : List (S76)) (a1 : Int) (a2 : Int) (r : Int) (w : World) (hr0_3 : Kd.C k76 w A0_3 l0_3.length l0_3) (hc0_3 : l0_3.length ≤ c0_3) (h : impl_Board_throw.f a0_0 a0_1 a0_2 l0_3 a1 a2 = some r) :
    Calls Try.prog 148 #[.agg #[.int .i64 a0_0, .int .i64 a0_1, .int .i64 a0_2, .slice A0_3 l0_3.length c0_3], .int .i64 a1, .int .i64 a2] w fun e w' => e = .returned (.int .i64 r) ∧ Below w.heap.size w w' := by
  have hu24 := Try.underlying24
  have HR0_3 := Aside0.mk hr0_3
  have HC0_3 := Aside0.mk hc0_3
  clear hr0_3 hc0_3
  have HB := Aside0.mk (Below.refl w.heap.size w)
  have H : ((impl_Board_landing.f a0_0 a0_1 a0_2 l0_3 a1 a2).bind fun bt404 => (if bt404.2 = true then ((impl_Board_begins.f a0_0 a0_1 a0_2 l0_3 bt404.1).bind fun bt406 => (some bt406.1)) else (some a1))) = some r := h
  clear h
  replace H := Option.bind_eq_some_iff.mp H
  obtain ⟨⟨t404, t405⟩, A40, H⟩ := H
  replace H : (if t405 = true then ((impl_Board_begins.f a0_0 a0_1 a0_2 l0_3 t404).bind fun bt406 => (some bt406.1)) else (some a1)) = some r := H
  have A4 := Aside0.mk A40
  clear A40
  by_cases c5 : t405 = true
  · subst c5
    have H1 : ((impl_Board_begins.f a0_0 a0_1 a0_2 l0_3 t404).bind fun bt406 => (some bt406.1)) = some r := by rw [if_pos rfl] at H; exact H
    clear H
    have H := H1
    clear H1
    replace H := Option.bind_eq_some_iff.mp H
    obtain ⟨⟨t406, t407⟩, A60, H⟩ := H
    replace H : (some t406) = some r := H
    have A6 := Aside0.mk A60
    clear A60
    obtain rfl := Option.some.inj H
    go_enter Try.func148, Try.ntmps148
    go_wp2_with (first | ((with_reducible refine gate_dst (N := 3) rfl ?_); refine box_event ?hg (N := 3) ?hd (cs := #[.int .i64 a0_0, .int .i64 a0_1, .int .i64 a0_2, .slice A0_3 l0_3.length c0_3]) (t := 24) ?hr ?_; (case hd => rfl); (case hg => rfl); (case hr => first | (go_simp; done) | (go_simp; rfl)); intro gb403 hg w7 hbox hb; have n0_ := Aside0.mk (below_step (by repeat (first | (with_reducible first | exact HB.out | apply below_alloc | apply pw_below_drewN | apply below_drew1) | exact HB.out)) hb); have n1_ := Aside0.mk (hbox); have n2_ := Aside0.mk ((by rw [hg]; exact (below_size (by repeat (first | (with_reducible first | exact HB.out | apply below_alloc | apply pw_below_drewN | apply below_drew1) | exact HB.out))) : w.heap.size ≤ gb403)); have n3_ := Aside0.mk ((by rw [hg]; exact (below_size (by repeat (first | (with_reducible first | exact HB.out | apply below_alloc | apply pw_below_drewN | apply below_drew1) | exact HB.out))) : w.heap.size ≤ gb403)); clear HB; have HB := n0_; have BK403 := n1_; have GW403 := n2_; have GE403 := n3_; clear n0_ n1_ n2_ n3_; clear hb hbox hg; have hcz8_0 : w7.cell? ⟨gb403, 0, none⟩ = some (.int .i64 a0_0) := (blk_cell BK403.out 0).trans rfl; have hcz8_1 : w7.cell? ⟨gb403, 1, none⟩ = some (.int .i64 a0_1) := (blk_cell BK403.out 1).trans rfl; have hcz8_2 : w7.cell? ⟨gb403, 2, none⟩ = some (.int .i64 a0_2) := (blk_cell BK403.out 2).trans rfl; have hcz8_3 : w7.cell? ⟨gb403, 3, none⟩ = some (.slice A0_3 l0_3.length c0_3) := (blk_cell BK403.out 3).trans rfl; have hfz8_0 := blk_frozen BK403.out 0; have hfz8_1 := blk_frozen BK403.out 1; have hfz8_2 := blk_frozen BK403.out 2; have hfz8_3 := blk_frozen BK403.out 3) | ((with_reducible refine gate_callee (f := 165) rfl ?_); refine goesL_ (some 13) rfl rfl Try.func165 (by kernel_rfl) rfl #[.agg #[.int .i64 a0_0, .int .i64 a0_1, .int .i64 a0_2, .slice A0_3 l0_3.length c0_3], .int .i64 a1, .int .i64 a2] rfl (by (try simp only [List.map_toArray, List.map_cons, List.map_nil]); first | done | rfl | (simp only [List.length_drop, List.length_take]; rfl)) ?_; (with_reducible refine (impl_Board_landing.calls a0_0 a0_1 a0_2 _ _ l0_3 a1 a2 t404 true _ ?side1 ?side2 A4.out).mono ?_); (case side1 => repeat (first | exact (Kd.C_below HR0_3.out HB.out) | (with_reducible refine Kd.C_alloc ?_ _) | (with_reducible refine Kd.C_drewN ?_ _) | (with_reducible refine Kd.C_drew ?_))); (case side2 => exact HC0_3.out); rintro e w9 ⟨rfl, hb⟩; refine ⟨_, rfl, ?_⟩; have n0_ := Aside0.mk (blk_below (g := gb403) (o := .cells #[.int .i64 a0_0, .int .i64 a0_1, .int .i64 a0_2, .slice A0_3 l0_3.length c0_3] 24 (0, 0)) (by (with_reducible repeat (first | refine blk_drewN ?_ _ | refine blk_drew ?_ | refine blk_alloc ?_ _)); exact BK403.out) hb); have n1_ := Aside0.mk (below_step (by repeat (first | (with_reducible first | exact HB.out | apply below_alloc | apply pw_below_drewN | apply below_drew1 | refine below_set ?_ GE403.out) | exact HB.out)) hb); clear BK403; clear HB; have BK403 := n0_; have HB := n1_; clear n0_ n1_; (try clear hb); (try clear hb2); (try clear hk); (try clear hi); have hcz10_0 : w9.cell? ⟨gb403, 0, none⟩ = some (.int .i64 a0_0) := (blk_cell BK403.out 0).trans rfl; have hcz10_1 : w9.cell? ⟨gb403, 1, none⟩ = some (.int .i64 a0_1) := (blk_cell BK403.out 1).trans rfl; have hcz10_2 : w9.cell? ⟨gb403, 2, none⟩ = some (.int .i64 a0_2) := (blk_cell BK403.out 2).trans rfl; have hcz10_3 : w9.cell? ⟨gb403, 3, none⟩ = some (.slice A0_3 l0_3.length c0_3) := (blk_cell BK403.out 3).trans rfl; have hfz10_0 := blk_frozen BK403.out 0; have hfz10_1 := blk_frozen BK403.out 1; have hfz10_2 := blk_frozen BK403.out 2; have hfz10_3 := blk_frozen BK403.out 3) | ((with_reducible refine gate_callee (f := 145) rfl ?_); refine goesL_ (some 22) rfl rfl Try.func145 (by kernel_rfl) rfl #[.agg #[.int .i64 a0_0, .int .i64 a0_1, .int .i64 a0_2, .slice A0_3 l0_3.length c0_3], .int .i64 t404] rfl (by (try simp only [List.map_toArray, List.map_cons, List.map_nil]); first | done | rfl | (simp only [List.length_drop, List.length_take]; rfl)) ?_; (with_reducible refine (impl_Board_begins.calls a0_0 a0_1 a0_2 _ _ l0_3 t404 t406 t407 _ ?side1 ?side2 A6.out).mono ?_); (case side1 => repeat (first | exact (Kd.C_below HR0_3.out HB.out) | (with_reducible refine Kd.C_alloc ?_ _) | (with_reducible refine Kd.C_drewN ?_ _) | (with_reducible refine Kd.C_drew ?_))); (case side2 => exact HC0_3.out); rintro e w11 ⟨rfl, hb⟩; refine ⟨_, rfl, ?_⟩; have n0_ := Aside0.mk (blk_below (g := gb403) (o := .cells #[.int .i64 a0_0, .int .i64 a0_1, .int .i64 a0_2, .slice A0_3 l0_3.length c0_3] 24 (0, 0)) (by (with_reducible repeat (first | refine blk_drewN ?_ _ | refine blk_drew ?_ | refine blk_alloc ?_ _)); exact BK403.out) hb); have n1_ := Aside0.mk (below_step (by repeat (first | (with_reducible first | exact HB.out | apply below_alloc | apply pw_below_drewN | apply below_drew1 | refine below_set ?_ GE403.out) | exact HB.out)) hb); clear BK403; clear HB; have BK403 := n0_; have HB := n1_; clear n0_ n1_; (try clear hb); (try clear hb2); (try clear hk); (try clear hi)))
    go_ret
    exact ⟨by first | rfl | (simp [errW_none, errW_some] <;> rfl) | (simp [*, errW_none, errW_some] <;> rfl), by repeat (first | (with_reducible first | exact HB.out | apply below_alloc | apply pw_below_drewN | apply below_drew1 | refine below_set ?_ GE403.out) | exact HB.out)⟩
  · replace c5 := Bool.eq_false_iff.mpr c5
    subst c5
    have H1 : (some a1) = some r := by rw [if_neg (show ¬ (false = true) by decide)] at H; exact H
    clear H
    have H := H1
    clear H1
    obtain rfl := Option.some.inj H
    go_enter Try.func148, Try.ntmps148
    go_wp2_with (first | ((with_reducible refine gate_dst (N := 3) rfl ?_); refine box_event ?hg (N := 3) ?hd (cs := #[.int .i64 a0_0, .int .i64 a0_1, .int .i64 a0_2, .slice A0_3 l0_3.length c0_3]) (t := 24) ?hr ?_; (case hd => rfl); (case hg => rfl); (case hr => first | (go_simp; done) | (go_simp; rfl)); intro gb403 hg w12 hbox hb; have n0_ := Aside0.mk (below_step (by repeat (first | (with_reducible first | exact HB.out | apply below_alloc | apply pw_below_drewN | apply below_drew1) | exact HB.out)) hb); have n1_ := Aside0.mk (hbox); have n2_ := Aside0.mk ((by rw [hg]; exact (below_size (by repeat (first | (with_reducible first | exact HB.out | apply below_alloc | apply pw_below_drewN | apply below_drew1) | exact HB.out))) : w.heap.size ≤ gb403)); have n3_ := Aside0.mk ((by rw [hg]; exact (below_size (by repeat (first | (with_reducible first | exact HB.out | apply below_alloc | apply pw_below_drewN | apply below_drew1) | exact HB.out))) : w.heap.size ≤ gb403)); clear HB; have HB := n0_; have BK403 := n1_; have GW403 := n2_; have GE403 := n3_; clear n0_ n1_ n2_ n3_; clear hb hbox hg; have hcz13_0 : w12.cell? ⟨gb403, 0, none⟩ = some (.int .i64 a0_0) := (blk_cell BK403.out 0).trans rfl; have hcz13_1 : w12.cell? ⟨gb403, 1, none⟩ = some (.int .i64 a0_1) := (blk_cell BK403.out 1).trans rfl; have hcz13_2 : w12.cell? ⟨gb403, 2, none⟩ = some (.int .i64 a0_2) := (blk_cell BK403.out 2).trans rfl; have hcz13_3 : w12.cell? ⟨gb403, 3, none⟩ = some (.slice A0_3 l0_3.length c0_3) := (blk_cell BK403.out 3).trans rfl; have hfz13_0 := blk_frozen BK403.out 0; have hfz13_1 := blk_frozen BK403.out 1; have hfz13_2 := blk_frozen BK403.out 2; have hfz13_3 := blk_frozen BK403.out 3) | ((with_reducible refine gate_callee (f := 165) rfl ?_); refine goesL_ (some 13) rfl rfl Try.func165 (by kernel_rfl) rfl #[.agg #[.int .i64 a0_0, .int .i64 a0_1, .int .i64 a0_2, .slice A0_3 l0_3.length c0_3], .int .i64 a1, .int .i64 a2] rfl (by (try simp only [List.map_toArray, List.map_cons, List.map_nil]); first | done | rfl | (simp only [List.length_drop, List.length_take]; rfl)) ?_; (with_reducible refine (impl_Board_landing.calls a0_0 a0_1 a0_2 _ _ l0_3 a1 a2 t404 false _ ?side1 ?side2 A4.out).mono ?_); (case side1 => repeat (first | exact (Kd.C_below HR0_3.out HB.out) | (with_reducible refine Kd.C_alloc ?_ _) | (with_reducible refine Kd.C_drewN ?_ _) | (with_reducible refine Kd.C_drew ?_))); (case side2 => exact HC0_3.out); rintro e w14 ⟨rfl, hb⟩; refine ⟨_, rfl, ?_⟩; have n0_ := Aside0.mk (blk_below (g := gb403) (o := .cells #[.int .i64 a0_0, .int .i64 a0_1, .int .i64 a0_2, .slice A0_3 l0_3.length c0_3] 24 (0, 0)) (by (with_reducible repeat (first | refine blk_drewN ?_ _ | refine blk_drew ?_ | refine blk_alloc ?_ _)); exact BK403.out) hb); have n1_ := Aside0.mk (below_step (by repeat (first | (with_reducible first | exact HB.out | apply below_alloc | apply pw_below_drewN | apply below_drew1 | refine below_set ?_ GE403.out) | exact HB.out)) hb); clear BK403; clear HB; have BK403 := n0_; have HB := n1_; clear n0_ n1_; (try clear hb); (try clear hb2); (try clear hk); (try clear hi)))
    go_ret
    exact ⟨by first | rfl | (simp [errW_none, errW_some] <;> rfl) | (simp [*, errW_none, errW_some] <;> rfl), by repeat (first | (with_reducible first | exact HB.out | apply below_alloc | apply pw_below_drewN | apply below_drew1 | refine below_set ?_ GE403.out) | exact HB.out)⟩
end Go.Proofs.Ytnoejflancomaaa.P
end

section
namespace Go.Proofs.Ytnoejflancomaaa.P
set_option linter.unusedVariables false
set_option linter.unusedSimpArgs false
open Go Go.RowKit Go.Proofs.YtnoejflancomaaaW.PrintWords Go.Proofs.YtnoejflancomaaaW.PrintLast Go.Proofs.YtnoejflancomaaaW.PrintMore
open Go.Maps (Keyed has IsMap)
abbrev gv (u : Int × Int) : Value := .agg #[.int .i64 u.1, .int .i64 u.2]
noncomputable def gkl (u : Int × Int) : Lit := match keyOf Try.prog 154 (gv u) with | some l => l | none => .bool false
theorem g_law : WideMaps.KeyLaw Try.prog 154 := deep_law (m := 9) (by decide) (by kernel_rfl) (by kernel_rfl) (by simp [Try.underlying154])
theorem g_key (a b : Int) (ha : (Lit.int .i64 a).wf = true) (hb : (Lit.int .i64 b).wf = true) : keyOf Try.prog 154 (gv (a, b)) = some (gkl (a, b)) := by
  have : ∃ l, keyOf Try.prog 154 (gv (a, b)) = some l := by
    have cS : Try.prog.cellsOf 154 = 2 := by kernel_rfl
    have c3 : Try.prog.cellsOf 3 = 1 := by kernel_rfl
    have hI : ∀ (n : Nat) (a : Int) (h : (Lit.int .i64 a).wf = true), Try.prog.keyLits (n + 1) 3 [.int .i64 a] = some [.int .i64 a] := fun n a h => by
      simp [Program.keyLits, Try.underlying3, h]
    have hS : ∀ n, Try.prog.keyLits (n + 2) 154 [.int .i64 a, .int .i64 b] = some [.int .i64 a, .int .i64 b] := fun n => by
      unfold Program.keyLits
      simp only [Try.underlying154]
      simp [cS, c3, hI, ha, hb]
    have hk : Try.prog.keyType 154 = true := by kernel_rfl
    have hv : (gv (a, b)).formed Try.prog 154 = true := by kernel_rfl
    have hz : ∃ n, Try.prog.types.size + 1 = n + 2 := ⟨Try.prog.types.size - 1, by kernel_rfl⟩
    obtain ⟨n, hz⟩ := hz
    unfold keyOf
    simp only [Try.underlying154, hk, hv, hz, Value.cells, hS]
    simp
  obtain ⟨l, hl⟩ := this
  unfold gkl
  rw [hl]
def spots (sq : Int) (m : Nat) : List (Int × Int) := (List.range (sq.toNat + 1)).flatMap fun s : Nat => (List.range (m + 1)).map fun q : Nat => ((s : Int), (q : Int))
theorem mem_spots {sq : Int} {m : Nat} {u : Int × Int} (h0 : 0 ≤ sq) : u ∈ spots sq m ↔ (0 ≤ u.1 ∧ u.1 ≤ sq) ∧ (0 ≤ u.2 ∧ u.2 ≤ m) := by
  unfold spots
  simp only [List.mem_flatMap, List.mem_range, List.mem_map]
  constructor
  · rintro ⟨s, hs, q, hq, rfl⟩
    exact ⟨⟨by simp, by simp; omega⟩, ⟨by simp, by simp; omega⟩⟩
  · rintro ⟨⟨h1, h2⟩, h3, h4⟩
    exact ⟨u.1.toNat, by omega, u.2.toNat, by omega, by
      obtain ⟨a, b⟩ := u
      simp at h1 h2 h3 h4 ⊢
      omega⟩
theorem spots_nodup (sq : Int) (m : Nat) : (spots sq m).Nodup := by
  unfold spots
  rw [List.nodup_iff_pairwise_ne, List.pairwise_flatMap]
  constructor
  · intro s _
    rw [List.pairwise_map]
    exact (List.nodup_iff_pairwise_ne.1 List.nodup_range).imp (fun h e => h (by have := (Prod.mk.inj e).2; omega))
  · refine (List.nodup_iff_pairwise_ne.1 List.nodup_range).imp (fun h x hx y hy e => ?_)
    obtain ⟨_, _, rfl⟩ := List.mem_map.1 hx
    obtain ⟨_, _, rfl⟩ := List.mem_map.1 hy
    exact h (by have := (Prod.mk.inj e).1; omega)
theorem spots_len {sq : Int} (h : sq ≤ 100) {m : Nat} (hm : m ≤ 17) : (spots sq m).length ≤ 1818 := by
  have : (spots sq m).length = (sq.toNat + 1) * (m + 1) := by simp [spots, List.length_flatMap, List.map_const', List.sum_replicate_nat]
  rw [this]
  exact Nat.le_trans (Nat.mul_le_mul (show sq.toNat + 1 ≤ 101 by omega) (show m + 1 ≤ 18 by omega)) (by decide)
theorem g_rep {sq : Int} (h0 : 0 ≤ sq) (h : sq ≤ 100) {m : Nat} (hm : m ≤ 17) : KeyRep Try.prog 154 gv gkl (spots sq m) where
  K := Keyed.of_law g_law
  key u hu := by
    have := (mem_spots h0).1 hu
    exact g_key u.1 u.2 (WalkArith.wf_i64 (by omega)) (WalkArith.wf_i64 (by omega))
  inj u v e := by
    obtain ⟨a, b⟩ := u
    obtain ⟨c, d⟩ := v
    simpa using e
  int := Try.underlying3
  zero w := by kernel_rfl
theorem i_rep (U : List Int) (hU : ∀ u ∈ U, (Lit.int .i64 u).wf = true) : KeyRep Try.prog 3 (Value.int .i64) (Lit.int .i64) U where
  K := Maps.int_keyed Try.underlying3
  key u hu := Maps.keyOf_int_mk Try.underlying3 (hU u hu)
  inj u v e := by simpa using e
  int := Try.underlying3
  zero w := by kernel_rfl
def wS {κ : Type} (U : List κ) (f : κ → Int) : Int := (U.map f).sum
section
variable {κ : Type}
theorem wS_congr {U : List κ} {f g : κ → Int} (h : ∀ u ∈ U, f u = g u) : wS U f = wS U g := by
  unfold wS; rw [List.map_congr_left h]
theorem wS_zero (U : List κ) : wS U (fun _ => 0) = 0 := by
  unfold wS
  induction U with
  | nil => rfl
  | cons a r ih => simpa using ih
theorem wS_add (U : List κ) (f g : κ → Int) : wS U (fun u => f u + g u) = wS U f + wS U g := by
  unfold wS
  induction U with
  | nil => rfl
  | cons a r ih => simp only [List.map_cons, List.sum_cons]; omega
theorem wS_le {U : List κ} {f g : κ → Int} (h : ∀ u ∈ U, f u ≤ g u) : wS U f ≤ wS U g := by
  unfold wS
  induction U with
  | nil => exact Int.le_refl _
  | cons a r ih =>
    have h1 := h a List.mem_cons_self
    have h2 := ih (fun u hu => h u (List.mem_cons_of_mem _ hu))
    simp only [List.map_cons, List.sum_cons]; omega
theorem wS_nn {U : List κ} {f : κ → Int} (h : ∀ u ∈ U, 0 ≤ f u) : 0 ≤ wS U f := by
  have := wS_le (f := fun _ => 0) h
  rwa [wS_zero] at this
theorem wS_one [DecidableEq κ] : ∀ {U : List κ}, U.Nodup → ∀ {x : κ}, x ∈ U → ∀ c : Int, wS U (fun u => if u = x then c else 0) = c
  | a :: r, hn, x, hx, c => by
    obtain ⟨h1, h2⟩ := List.nodup_cons.1 hn
    unfold wS
    simp only [List.map_cons, List.sum_cons]
    by_cases e : a = x
    · subst e
      rw [if_pos rfl]
      have : wS r (fun u => if u = a then c else 0) = 0 := (wS_congr (fun u hu => if_neg (fun e => h1 (by rw [← e]; exact hu)))).trans (wS_zero r)
      unfold wS at this
      omega
    · rw [if_neg e]
      have := wS_one h2 (List.mem_of_ne_of_mem (fun h => e h.symm) hx) c
      unfold wS at this
      omega
theorem wS_upd [DecidableEq κ] {U : List κ} (hn : U.Nodup) {x : κ} (hx : x ∈ U) (g β : κ → Int) (v : Int) : wS U (fun u => upd g x v u * β u) = wS U (fun u => g u * β u) + (v - g x) * β x := by
  have e : ∀ u ∈ U, upd g x v u * β u = g u * β u + (if u = x then (v - g x) * β x else 0) := fun u _ => by
    unfold upd
    by_cases e : u = x
    · subst e; rw [if_pos rfl, if_pos rfl, Int.sub_mul]; omega
    · rw [if_neg e, if_neg e]; omega
  rw [wS_congr e, wS_add, wS_one hn hx]
theorem wS_left [DecidableEq κ] {U : List κ} (hn : U.Nodup) {x : κ} (hx : x ∈ U) (left : κ → Bool) (hl : left x = true) (F : κ → Int) :
    wS U (fun v => if (left v && !decide (v = x)) = true then 0 else F v) = wS U (fun v => if left v = true then 0 else F v) + F x := by
  have e : ∀ v ∈ U, (if (left v && !decide (v = x)) = true then 0 else F v) = (if left v = true then 0 else F v) + (if v = x then F x else 0) := fun v _ => by
    by_cases e : v = x
    · subst e; simp [hl]
    · simp [e]
  rw [wS_congr e, wS_add, wS_one hn hx]
theorem wS_ge [DecidableEq κ] {U : List κ} (hn : U.Nodup) {x : κ} (hx : x ∈ U) {f : κ → Int} (h : ∀ u ∈ U, 0 ≤ f u) : f x ≤ wS U f := by
  have := wS_le (U := U) (f := fun u => if u = x then f x else 0) (g := f) (fun u hu => by
    by_cases e : u = x
    · subst e; rw [if_pos rfl]; exact Int.le_refl _
    · rw [if_neg e]; exact h u hu)
  rwa [wS_one hn hx] at this
end
section
variable {P : Program} {ops : Array Oper} {Q : Exit → Act → World → Prop}
theorem gate_insert {rest : List Oper} {o : Oper} {a : Act} {W : World} {t : TypeId} {m x v : Operand} (_ho : o.op = Op.insert t m x v) (h : wpList P ops Q (o :: rest) a W) : wpList P ops Q (o :: rest) a W := h
theorem goesF_ {oi : Oper} {N : Option Tmp} {a : Act} {w : World} {K : Act → World → Prop} {x : Operand} {f : FuncId} {fn : Func} {ca : Array Value} {az : Array Operand} {ts : Array TypeId} (hf : P.funcs[f]? = some fn) (hname : (fn.name == "runtime.NumGoroutine") = false) (hb : fn.body.isSome = true) (args : Array Value)
    (hw : Region.wanted oi (yielded ops a.tmps) = true) (hN : oi.dst = N) (hop : oi.op = .call { callee := .value x, args := az, argTypes := ts }) (hx : a.eval x = .func (.func f) #[] ca) (hargs : az.map a.eval ++ ca = args)
    (h : Calls P f args w fun e w' => ∃ v, e = .returned v ∧ K (a.put N v) w') : if Region.wanted oi (yielded ops a.tmps) = true then Oper.wp P oi a w K Q else K (a.put N undef) w := by
  refine call_ f args hw hN ?_ h
  have he := enters_ hf hname hb args w
  unfold execOp
  simp [hop, resolve, Deferred.ofValue, invoke, hx, hargs, he]
end
end Go.Proofs.Ytnoejflancomaaa.P
end

section
namespace Go.Proofs.Ytnoejflancomaaa.P
open Go.RowKit Go.Proofs.YtnoejflancomaaaW.PrintWords Go.Proofs.YtnoejflancomaaaW.PrintLast Go.Proofs.YtnoejflancomaaaW.PrintMore
attribute [local go_sem] max2_int min2_int max_two min_two max_three min_three max_four min_four
set_option linter.unusedVariables false
set_option linter.unusedSimpArgs false
def laws_eqJump.f (a0_0 : Int) (a0_1 : Int) (a1_0 : Int) (a1_1 : Int) : Option (Bool) := if a0_0 = a1_0 then (if a0_1 = a1_1 then (some true) else (some false)) else (some false)
set_option maxHeartbeats 8000000 in
set_option maxRecDepth 100000 in
theorem laws_eqJump.calls (a0_0 : Int) (a0_1 : Int) (a1_0 : Int) (a1_1 : Int) (r : Bool) (w : World) (h : laws_eqJump.f a0_0 a0_1 a1_0 a1_1 = some r) :
    Calls Try.prog 149 #[.agg #[.int .i64 a0_0, .int .i64 a0_1], .agg #[.int .i64 a1_0, .int .i64 a1_1]] w fun e w' => e = .returned (.bool r) ∧ Below w.heap.size w w' := by
  have hu76 := Try.underlying76
  have HB := Aside0.mk (Below.refl w.heap.size w)
  have H : (if a0_0 = a1_0 then (if a0_1 = a1_1 then (some true) else (some false)) else (some false)) = some r := h
  clear h
  by_cases c3 : a0_0 = a1_0
  · rw [if_pos c3] at H
    have c3b0 : (a0_0 == a1_0) = true := beq_iff_eq.mpr c3
    have c3b1 : (a0_0 != a1_0) = false := bne_eq_false_iff_eq.mpr c3
    clear c3
    by_cases c4 : a0_1 = a1_1
    · rw [if_pos c4] at H
      have c4b0 : (a0_1 == a1_1) = true := beq_iff_eq.mpr c4
      have c4b1 : (a0_1 != a1_1) = false := bne_eq_false_iff_eq.mpr c4
      clear c4
      obtain rfl := Option.some.inj H
      go_enter Try.func149, Try.ntmps149
      go_wp2_with (first | ((with_reducible refine gate_dst (N := 2) rfl ?_); refine box_event ?hg (N := 2) ?hd (cs := #[.int .i64 a0_0, .int .i64 a0_1]) (t := 76) ?hr ?_; (case hd => rfl); (case hg => rfl); (case hr => first | (go_simp; done) | (go_simp; rfl)); intro gb109 hg w5 hbox hb; have n0_ := Aside0.mk (below_step (by repeat (first | (with_reducible first | exact HB.out | apply below_alloc | apply pw_below_drewN | apply below_drew1) | exact HB.out)) hb); have n1_ := Aside0.mk (hbox); have n2_ := Aside0.mk ((by rw [hg]; exact (below_size (by repeat (first | (with_reducible first | exact HB.out | apply below_alloc | apply pw_below_drewN | apply below_drew1) | exact HB.out))) : w.heap.size ≤ gb109)); have n3_ := Aside0.mk ((by rw [hg]; exact (below_size (by repeat (first | (with_reducible first | exact HB.out | apply below_alloc | apply pw_below_drewN | apply below_drew1) | exact HB.out))) : w.heap.size ≤ gb109)); clear HB; have HB := n0_; have BK109 := n1_; have GW109 := n2_; have GE109 := n3_; clear n0_ n1_ n2_ n3_; clear hb hbox hg) | ((with_reducible refine gate_dst (N := 3) rfl ?_); refine box_event ?hg (N := 3) ?hd (cs := #[.int .i64 a1_0, .int .i64 a1_1]) (t := 76) ?hr ?_; (case hd => rfl); (case hg => rfl); (case hr => first | (go_simp; done) | (go_simp; rfl)); intro gb110 hg w6 hbox hb; have n0_ := Aside0.mk (blk_below (g := gb109) (o := .cells #[.int .i64 a0_0, .int .i64 a0_1] 76 (0, 0)) (by (with_reducible repeat (first | refine blk_drewN ?_ _ | refine blk_drew ?_ | refine blk_alloc ?_ _)); exact BK109.out) hb); have n1_ := Aside0.mk (below_step (by repeat (first | (with_reducible first | exact HB.out | apply below_alloc | apply pw_below_drewN | apply below_drew1 | refine below_set ?_ GE109.out) | exact HB.out)) hb); have n2_ := Aside0.mk (hbox); have n3_ := Aside0.mk ((by rw [hg]; exact (below_size (by repeat (first | (with_reducible first | exact HB.out | apply below_alloc | apply pw_below_drewN | apply below_drew1 | refine below_set ?_ GE109.out) | exact HB.out))) : w.heap.size ≤ gb110)); have n4_ := Aside0.mk ((by rw [hg]; exact (below_size (by repeat (first | (with_reducible first | exact HB.out | apply below_alloc | apply pw_below_drewN | apply below_drew1 | refine below_set ?_ GE109.out) | exact HB.out))) : w.heap.size ≤ gb110)); have n5_ := Aside0.mk ((by rw [hg]; exact Nat.ne_of_lt (blk_lt (g := gb109) (o := .cells #[.int .i64 a0_0, .int .i64 a0_1] 76 (0, 0)) (by (with_reducible repeat (first | refine blk_drewN ?_ _ | refine blk_drew ?_ | refine blk_alloc ?_ _)); exact BK109.out)) : gb109 ≠ gb110)); have n6_ := Aside0.mk ((by rw [hg]; exact Nat.ne_of_gt (blk_lt (g := gb109) (o := .cells #[.int .i64 a0_0, .int .i64 a0_1] 76 (0, 0)) (by (with_reducible repeat (first | refine blk_drewN ?_ _ | refine blk_drew ?_ | refine blk_alloc ?_ _)); exact BK109.out)) : gb110 ≠ gb109)); clear BK109; clear HB; have BK109 := n0_; have HB := n1_; have BK110 := n2_; have GW110 := n3_; have GE110 := n4_; have NB109_110 := n5_; have NB110_109 := n6_; clear n0_ n1_ n2_ n3_ n4_ n5_ n6_; clear hb hbox hg; have hnb7 := NB109_110.out; have hnc7 := NB110_109.out; have hcz8_0 : w6.cell? ⟨gb109, 0, none⟩ = some (.int .i64 a0_0) := (blk_cell BK109.out 0).trans rfl; have hcz8_1 : w6.cell? ⟨gb109, 1, none⟩ = some (.int .i64 a0_1) := (blk_cell BK109.out 1).trans rfl; have hfz8_0 := blk_frozen BK109.out 0; have hfz8_1 := blk_frozen BK109.out 1; have hcz9_0 : w6.cell? ⟨gb110, 0, none⟩ = some (.int .i64 a1_0) := (blk_cell BK110.out 0).trans rfl; have hcz9_1 : w6.cell? ⟨gb110, 1, none⟩ = some (.int .i64 a1_1) := (blk_cell BK110.out 1).trans rfl; have hfz9_0 := blk_frozen BK110.out 0; have hfz9_1 := blk_frozen BK110.out 1))
      go_ret
      exact ⟨by first | rfl | (simp [errW_none, errW_some] <;> rfl) | (simp [*, errW_none, errW_some] <;> rfl), by repeat (first | (with_reducible first | exact HB.out | apply below_alloc | apply pw_below_drewN | apply below_drew1 | refine below_set ?_ GE109.out | refine below_set ?_ GE110.out) | exact HB.out)⟩
    · rw [if_neg c4] at H
      have c4b0 : (a0_1 == a1_1) = false := beq_eq_false_iff_ne.mpr c4
      have c4b1 : (a0_1 != a1_1) = true := bne_iff_ne.mpr c4
      obtain rfl := Option.some.inj H
      go_enter Try.func149, Try.ntmps149
      go_wp2_with (first | ((with_reducible refine gate_dst (N := 2) rfl ?_); refine box_event ?hg (N := 2) ?hd (cs := #[.int .i64 a0_0, .int .i64 a0_1]) (t := 76) ?hr ?_; (case hd => rfl); (case hg => rfl); (case hr => first | (go_simp; done) | (go_simp; rfl)); intro gb109 hg w10 hbox hb; have n0_ := Aside0.mk (below_step (by repeat (first | (with_reducible first | exact HB.out | apply below_alloc | apply pw_below_drewN | apply below_drew1) | exact HB.out)) hb); have n1_ := Aside0.mk (hbox); have n2_ := Aside0.mk ((by rw [hg]; exact (below_size (by repeat (first | (with_reducible first | exact HB.out | apply below_alloc | apply pw_below_drewN | apply below_drew1) | exact HB.out))) : w.heap.size ≤ gb109)); have n3_ := Aside0.mk ((by rw [hg]; exact (below_size (by repeat (first | (with_reducible first | exact HB.out | apply below_alloc | apply pw_below_drewN | apply below_drew1) | exact HB.out))) : w.heap.size ≤ gb109)); clear HB; have HB := n0_; have BK109 := n1_; have GW109 := n2_; have GE109 := n3_; clear n0_ n1_ n2_ n3_; clear hb hbox hg) | ((with_reducible refine gate_dst (N := 3) rfl ?_); refine box_event ?hg (N := 3) ?hd (cs := #[.int .i64 a1_0, .int .i64 a1_1]) (t := 76) ?hr ?_; (case hd => rfl); (case hg => rfl); (case hr => first | (go_simp; done) | (go_simp; rfl)); intro gb110 hg w11 hbox hb; have n0_ := Aside0.mk (blk_below (g := gb109) (o := .cells #[.int .i64 a0_0, .int .i64 a0_1] 76 (0, 0)) (by (with_reducible repeat (first | refine blk_drewN ?_ _ | refine blk_drew ?_ | refine blk_alloc ?_ _)); exact BK109.out) hb); have n1_ := Aside0.mk (below_step (by repeat (first | (with_reducible first | exact HB.out | apply below_alloc | apply pw_below_drewN | apply below_drew1 | refine below_set ?_ GE109.out) | exact HB.out)) hb); have n2_ := Aside0.mk (hbox); have n3_ := Aside0.mk ((by rw [hg]; exact (below_size (by repeat (first | (with_reducible first | exact HB.out | apply below_alloc | apply pw_below_drewN | apply below_drew1 | refine below_set ?_ GE109.out) | exact HB.out))) : w.heap.size ≤ gb110)); have n4_ := Aside0.mk ((by rw [hg]; exact (below_size (by repeat (first | (with_reducible first | exact HB.out | apply below_alloc | apply pw_below_drewN | apply below_drew1 | refine below_set ?_ GE109.out) | exact HB.out))) : w.heap.size ≤ gb110)); have n5_ := Aside0.mk ((by rw [hg]; exact Nat.ne_of_lt (blk_lt (g := gb109) (o := .cells #[.int .i64 a0_0, .int .i64 a0_1] 76 (0, 0)) (by (with_reducible repeat (first | refine blk_drewN ?_ _ | refine blk_drew ?_ | refine blk_alloc ?_ _)); exact BK109.out)) : gb109 ≠ gb110)); have n6_ := Aside0.mk ((by rw [hg]; exact Nat.ne_of_gt (blk_lt (g := gb109) (o := .cells #[.int .i64 a0_0, .int .i64 a0_1] 76 (0, 0)) (by (with_reducible repeat (first | refine blk_drewN ?_ _ | refine blk_drew ?_ | refine blk_alloc ?_ _)); exact BK109.out)) : gb110 ≠ gb109)); clear BK109; clear HB; have BK109 := n0_; have HB := n1_; have BK110 := n2_; have GW110 := n3_; have GE110 := n4_; have NB109_110 := n5_; have NB110_109 := n6_; clear n0_ n1_ n2_ n3_ n4_ n5_ n6_; clear hb hbox hg; have hnb12 := NB109_110.out; have hnc12 := NB110_109.out; have hcz13_0 : w11.cell? ⟨gb109, 0, none⟩ = some (.int .i64 a0_0) := (blk_cell BK109.out 0).trans rfl; have hcz13_1 : w11.cell? ⟨gb109, 1, none⟩ = some (.int .i64 a0_1) := (blk_cell BK109.out 1).trans rfl; have hfz13_0 := blk_frozen BK109.out 0; have hfz13_1 := blk_frozen BK109.out 1; have hcz14_0 : w11.cell? ⟨gb110, 0, none⟩ = some (.int .i64 a1_0) := (blk_cell BK110.out 0).trans rfl; have hcz14_1 : w11.cell? ⟨gb110, 1, none⟩ = some (.int .i64 a1_1) := (blk_cell BK110.out 1).trans rfl; have hfz14_0 := blk_frozen BK110.out 0; have hfz14_1 := blk_frozen BK110.out 1))
      go_ret
      exact ⟨by first | rfl | (simp [errW_none, errW_some] <;> rfl) | (simp [*, errW_none, errW_some] <;> rfl), by repeat (first | (with_reducible first | exact HB.out | apply below_alloc | apply pw_below_drewN | apply below_drew1 | refine below_set ?_ GE109.out | refine below_set ?_ GE110.out) | exact HB.out)⟩
  · rw [if_neg c3] at H
    have c3b0 : (a0_0 == a1_0) = false := beq_eq_false_iff_ne.mpr c3
    have c3b1 : (a0_0 != a1_0) = true := bne_iff_ne.mpr c3
    obtain rfl := Option.some.inj H
    go_enter Try.func149, Try.ntmps149
    go_wp2_with (first | ((with_reducible refine gate_dst (N := 2) rfl ?_); refine box_event ?hg (N := 2) ?hd (cs := #[.int .i64 a0_0, .int .i64 a0_1]) (t := 76) ?hr ?_; (case hd => rfl); (case hg => rfl); (case hr => first | (go_simp; done) | (go_simp; rfl)); intro gb109 hg w15 hbox hb; have n0_ := Aside0.mk (below_step (by repeat (first | (with_reducible first | exact HB.out | apply below_alloc | apply pw_below_drewN | apply below_drew1) | exact HB.out)) hb); have n1_ := Aside0.mk (hbox); have n2_ := Aside0.mk ((by rw [hg]; exact (below_size (by repeat (first | (with_reducible first | exact HB.out | apply below_alloc | apply pw_below_drewN | apply below_drew1) | exact HB.out))) : w.heap.size ≤ gb109)); have n3_ := Aside0.mk ((by rw [hg]; exact (below_size (by repeat (first | (with_reducible first | exact HB.out | apply below_alloc | apply pw_below_drewN | apply below_drew1) | exact HB.out))) : w.heap.size ≤ gb109)); clear HB; have HB := n0_; have BK109 := n1_; have GW109 := n2_; have GE109 := n3_; clear n0_ n1_ n2_ n3_; clear hb hbox hg) | ((with_reducible refine gate_dst (N := 3) rfl ?_); refine box_event ?hg (N := 3) ?hd (cs := #[.int .i64 a1_0, .int .i64 a1_1]) (t := 76) ?hr ?_; (case hd => rfl); (case hg => rfl); (case hr => first | (go_simp; done) | (go_simp; rfl)); intro gb110 hg w16 hbox hb; have n0_ := Aside0.mk (blk_below (g := gb109) (o := .cells #[.int .i64 a0_0, .int .i64 a0_1] 76 (0, 0)) (by (with_reducible repeat (first | refine blk_drewN ?_ _ | refine blk_drew ?_ | refine blk_alloc ?_ _)); exact BK109.out) hb); have n1_ := Aside0.mk (below_step (by repeat (first | (with_reducible first | exact HB.out | apply below_alloc | apply pw_below_drewN | apply below_drew1 | refine below_set ?_ GE109.out) | exact HB.out)) hb); have n2_ := Aside0.mk (hbox); have n3_ := Aside0.mk ((by rw [hg]; exact (below_size (by repeat (first | (with_reducible first | exact HB.out | apply below_alloc | apply pw_below_drewN | apply below_drew1 | refine below_set ?_ GE109.out) | exact HB.out))) : w.heap.size ≤ gb110)); have n4_ := Aside0.mk ((by rw [hg]; exact (below_size (by repeat (first | (with_reducible first | exact HB.out | apply below_alloc | apply pw_below_drewN | apply below_drew1 | refine below_set ?_ GE109.out) | exact HB.out))) : w.heap.size ≤ gb110)); have n5_ := Aside0.mk ((by rw [hg]; exact Nat.ne_of_lt (blk_lt (g := gb109) (o := .cells #[.int .i64 a0_0, .int .i64 a0_1] 76 (0, 0)) (by (with_reducible repeat (first | refine blk_drewN ?_ _ | refine blk_drew ?_ | refine blk_alloc ?_ _)); exact BK109.out)) : gb109 ≠ gb110)); have n6_ := Aside0.mk ((by rw [hg]; exact Nat.ne_of_gt (blk_lt (g := gb109) (o := .cells #[.int .i64 a0_0, .int .i64 a0_1] 76 (0, 0)) (by (with_reducible repeat (first | refine blk_drewN ?_ _ | refine blk_drew ?_ | refine blk_alloc ?_ _)); exact BK109.out)) : gb110 ≠ gb109)); clear BK109; clear HB; have BK109 := n0_; have HB := n1_; have BK110 := n2_; have GW110 := n3_; have GE110 := n4_; have NB109_110 := n5_; have NB110_109 := n6_; clear n0_ n1_ n2_ n3_ n4_ n5_ n6_; clear hb hbox hg; have hnb17 := NB109_110.out; have hnc17 := NB110_109.out; have hcz18_0 : w16.cell? ⟨gb109, 0, none⟩ = some (.int .i64 a0_0) := (blk_cell BK109.out 0).trans rfl; have hcz18_1 : w16.cell? ⟨gb109, 1, none⟩ = some (.int .i64 a0_1) := (blk_cell BK109.out 1).trans rfl; have hfz18_0 := blk_frozen BK109.out 0; have hfz18_1 := blk_frozen BK109.out 1; have hcz19_0 : w16.cell? ⟨gb110, 0, none⟩ = some (.int .i64 a1_0) := (blk_cell BK110.out 0).trans rfl; have hcz19_1 : w16.cell? ⟨gb110, 1, none⟩ = some (.int .i64 a1_1) := (blk_cell BK110.out 1).trans rfl; have hfz19_0 := blk_frozen BK110.out 0; have hfz19_1 := blk_frozen BK110.out 1))
    go_ret
    exact ⟨by first | rfl | (simp [errW_none, errW_some] <;> rfl) | (simp [*, errW_none, errW_some] <;> rfl), by repeat (first | (with_reducible first | exact HB.out | apply below_alloc | apply pw_below_drewN | apply below_drew1 | refine below_set ?_ GE109.out | refine below_set ?_ GE110.out) | exact HB.out)⟩
end Go.Proofs.Ytnoejflancomaaa.P
end

section
namespace Go.Proofs.Ytnoejflancomaaa.P
open Go.RowKit Go.Proofs.YtnoejflancomaaaW.PrintWords Go.Proofs.YtnoejflancomaaaW.PrintLast Go.Proofs.YtnoejflancomaaaW.PrintMore
attribute [local go_sem] max2_int min2_int max_two min_two max_three min_three max_four min_four
set_option linter.unusedVariables false
set_option linter.unusedSimpArgs false
def laws_eqJumpS.l0 : Nat → List (S76) → List (S76) → Int → Option (Bool)
  | 0, _, _, _ => none
  | k + 1, x0, x1, x5 => if x5 < (x0.length : Int) then (if 0 ≤ x5 then (if x5 < (x1.length : Int) then ((laws_eqJump.f ((rd_T76 x0 x5).f0) ((rd_T76 x0 x5).f1) ((rd_T76 x1 x5).f0) ((rd_T76 x1 x5).f1)).bind fun t113 => (if t113 = true then (laws_eqJumpS.l0 k x0 x1 (wrap64 (x5 + 1))) else (some false))) else (none)) else (none)) else (some true)
def laws_eqJumpS.f (k : Nat) (l0 : List (S76)) (l1 : List (S76)) : Option (Bool) := if (l0.length : Int) = (l1.length : Int) then (laws_eqJumpS.l0 k l0 l1 0) else (some false)
theorem laws_eqJumpS.mono_l : ∀ k, (∀ y0 y1 y2, LeO (laws_eqJumpS.l0 k y0 y1 y2) (laws_eqJumpS.l0 (k + 1) y0 y1 y2))
  | 0 => fun _ _ _ r h => by simp [laws_eqJumpS.l0] at h
  | k + 1 => by
    have ih0 := laws_eqJumpS.mono_l k
    · intro y0 y1 y2
      unfold laws_eqJumpS.l0
      repeat' first
      | (with_reducible exact ih0 _ _ _)
      | (with_reducible exact LeO.refl _)
      | (with_reducible exact LeO.none _)
      | (with_reducible refine LeO.ite ?_ ?_)
      | (with_reducible refine LeO.bind ?_ (fun _ => ?_))
      | exact ih0 _ _ _
      | exact LeO.none _
      | refine LeO.ite ?_ ?_
      | refine LeO.bind ?_ (fun _ => ?_)
theorem laws_eqJumpS.mono : ∀ a0 a1 k, LeO (laws_eqJumpS.f k a0 a1) (laws_eqJumpS.f (k + 1) a0 a1) := by
  intro a0 a1 k
  have ih0 := laws_eqJumpS.mono_l k
  unfold laws_eqJumpS.f
  repeat' first
      | (with_reducible exact ih0 _ _ _)
      | (with_reducible exact LeO.refl _)
      | (with_reducible exact LeO.none _)
      | (with_reducible refine LeO.ite ?_ ?_)
      | (with_reducible refine LeO.bind ?_ (fun _ => ?_))
      | exact ih0 _ _ _
      | exact LeO.none _
      | refine LeO.ite ?_ ?_
      | refine LeO.bind ?_ (fun _ => ?_)
def laws_eqJumpS.T6 : Bool × List (List Nat × List Nat) := (true, [([], []), ([], []), ([0, 1], [0, 1]), ([2], [2]), ([], []), ([], []), ([4, 5], [4, 5]), ([6], [6]), ([3, 7], [3, 7]), ([8], [8])])
def laws_eqJumpS.B6 : List Nat := [0, 0, 3, 7, 0, 0, 48, 112, 255, 511]
theorem laws_eqJumpS.tab6 : rtab .any (opsOf Try.f92 6) = laws_eqJumpS.T6 := by kernel_rfl
theorem laws_eqJumpS.bits6 : waitsOk laws_eqJumpS.T6.2 laws_eqJumpS.B6 = true := by kernel_rfl
set_option maxHeartbeats 8000000 in
set_option maxRecDepth 100000 in
theorem laws_eqJumpS.calls (k : Nat) (A0 : Option Addr) (c0 : Nat) (l0 : List (S76)) (A1 : Option Addr) (c1 : Nat) (l1 : List (S76)) (r : Bool) (w : World) (hr0 : Kd.C k76 w A0 l0.length l0) (hc0 : l0.length ≤ c0) (hr1 : Kd.C k76 w A1 l1.length l1) (hc1 : l1.length ≤ c1) (h : laws_eqJumpS.f k l0 l1 = some r) :
    Calls Try.prog 92 #[.slice A0 l0.length c0, .slice A1 l1.length c1] w fun e w' => e = .returned (.bool r) ∧ Below w.heap.size w w' := by
  have hu76 := Try.underlying76
  have HR0 := Aside0.mk hr0
  have HC0 := Aside0.mk hc0
  clear hr0 hc0
  have HR1 := Aside0.mk hr1
  have HC1 := Aside0.mk hc1
  clear hr1 hc1
  have HB := Aside0.mk (Below.refl w.heap.size w)
  have H : (if (l0.length : Int) = (l1.length : Int) then (laws_eqJumpS.l0 k l0 l1 0) else (some false)) = some r := h
  clear h
  by_cases c3 : (l0.length : Int) = (l1.length : Int)
  · rw [if_pos c3] at H
    have c3b0 : ((l0.length : Int) == (l1.length : Int)) = true := beq_iff_eq.mpr c3
    have c3b1 : ((l0.length : Int) != (l1.length : Int)) = false := bne_eq_false_iff_eq.mpr c3
    have c3b2 : (l0.length == l1.length) = true := by first | simpa using c3 | (simp at c3 ⊢; omega)
    clear c3
    have H' := Aside0.mk H
    clear H
    go_enter Try.func92, Try.ntmps92
    go_wp2
    go_loopg [5] k (fun kq v5 w' => ∃ (x5_1 : Int), v5 = .int .i64 x5_1 ∧ Aside0 (laws_eqJumpS.l0 kq l0 l1 x5_1 = some r) ∧ Aside0 (kq ≤ k) ∧ Aside0 (Below w.heap.size w w'))
    case atStart => exact ⟨(0), (by first | rfl | (simp; done) | (simp [*]; done)), H', ⟨Nat.le_refl _⟩, ⟨by repeat (first | (with_reducible first | exact HB.out | apply below_alloc | apply pw_below_drewN | apply below_drew1) | exact HB.out)⟩⟩
    case round =>
      clear H'
      try clear c1
      try clear p2
      try clear c3
      try clear c3b0
      try clear c3b1
      try clear c3b2
      obtain ⟨x5_1, rfl, HA, HK1, HB⟩ := hrel
      cases gk with
      | zero => exact absurd HA.out (by simp [laws_eqJumpS.l0])
      | succ k1 =>
        have H := HA.out
        clear HA
        simp only [laws_eqJumpS.l0] at H
        by_cases c4 : x5_1 < (l0.length : Int)
        · rw [if_pos c4] at H
          have c4b0 : decide (x5_1 < (l0.length : Int)) = true := decide_eq_true c4
          clear c4
          by_cases c5 : 0 ≤ x5_1
          · rw [if_pos c5] at H
            have c5b0 : decide (0 ≤ x5_1) = true := decide_eq_true c5
            clear c5
            by_cases c6 : x5_1 < (l1.length : Int)
            · rw [if_pos c6] at H
              have c6b0 : decide (x5_1 < (l1.length : Int)) = true := decide_eq_true c6
              clear c6
              replace H := Option.bind_eq_some_iff.mp H
              obtain ⟨t113, A70, H⟩ := H
              replace H : (if t113 = true then (laws_eqJumpS.l0 k1 l0 l1 (wrap64 (x5_1 + 1))) else (some false)) = some r := H
              have A7 := Aside0.mk A70
              clear A70
              by_cases c8 : t113 = true
              · subst c8
                have H1 : (laws_eqJumpS.l0 k1 l0 l1 (wrap64 (x5_1 + 1))) = some r := by rw [if_pos rfl] at H; exact H
                clear H
                have H := H1
                clear H1
                have H' := Aside0.mk H
                clear H
                try go_wp2
                have n0_ := Aside0.mk (below_drew1 HB.out)
                clear HB
                have HB := n0_
                clear n0_
                have p111 : 0 ≤ (x5_1 : Int) := of_decide_eq_true (by first | (with_reducible assumption) | assumption)
                have q111 : x5_1 < (l0.length : Int) := of_decide_eq_true (by first | (with_reducible assumption) | assumption)
                obtain ⟨ad111, e111, hx111_0, hx111_1⟩ := at_T76 HR0.out x5_1 p111 q111
                have hw111_1 := hx111_1
                have hw111_0 := hx111_0
                cases e111
                replace hx111_0 := (HB.out.cell (World.block_lt_of_cell? w _ hx111_0)).trans hx111_0
                replace hx111_1 := (HB.out.cell (World.block_lt_of_cell? w _ hx111_1)).trans hx111_1
                replace p111 := eq_true p111
                replace q111 := eq_true q111
                have p112 : 0 ≤ (x5_1 : Int) := of_decide_eq_true (by first | (with_reducible assumption) | assumption)
                have q112 : x5_1 < (l1.length : Int) := of_decide_eq_true (by first | (with_reducible assumption) | assumption)
                obtain ⟨ad112, e112, hx112_0, hx112_1⟩ := at_T76 HR1.out x5_1 p112 q112
                have hw112_1 := hx112_1
                have hw112_0 := hx112_0
                cases e112
                replace hx112_0 := (HB.out.cell (World.block_lt_of_cell? w _ hx112_0)).trans hx112_0
                replace hx112_1 := (HB.out.cell (World.block_lt_of_cell? w _ hx112_1)).trans hx112_1
                replace p112 := eq_true p112
                replace q112 := eq_true q112
                refine start_ (n := 10) (S := fun w' => w'.cell? (ad111.add ((x5_1).toNat * 2)) = some (.int .i64 ((rd_T76 l0 x5_1).f0)) ∧ w'.cell? ⟨(ad111.add ((x5_1).toNat * 2)).block, (ad111.add ((x5_1).toNat * 2)).off + 1, none⟩ = some (.int .i64 ((rd_T76 l0 x5_1).f1)) ∧ w'.cell? (ad112.add ((x5_1).toNat * 2)) = some (.int .i64 ((rd_T76 l1 x5_1).f0)) ∧ w'.cell? ⟨(ad112.add ((x5_1).toNat * 2)).block, (ad112.add ((x5_1).toNat * 2)).off + 1, none⟩ = some (.int .i64 ((rd_T76 l1 x5_1).f1))) (ds := []) #[false, false, false, false, false, false, false, false, false, false] (by kernel_rfl) rfl rfl ⟨((HB.out.cell (World.block_lt_of_cell? w _ hw111_0)).trans hw111_0), ((HB.out.cell (World.block_lt_of_cell? w _ hw111_1)).trans hw111_1), ((HB.out.cell (World.block_lt_of_cell? w _ hw112_0)).trans hw112_0), ((HB.out.cell (World.block_lt_of_cell? w _ hw112_1)).trans hw112_1)⟩ (fun hHeld => ?_); refine with_tabW laws_eqJumpS.tab6 laws_eqJumpS.bits6 (fun HT_ HW_ => ?_)
                generalize wr.drew = w9 at HB hx111_0 hx111_1 hx112_0 hx112_1 hHeld ⊢
                refine pure_ (i := 0) (N := some 17) (v := ?_) (a' := ?_) #[true, false, false, false, false, false, false, false, false, false] rfl rfl (any_of HT_.out (by kernel_rfl)) (fun _ _ _ h => h) (Or.inl ⟨by rfl, ?_⟩) ?_ ?_
                rotate_left
                · intro w'
                  go_simp
                  with_reducible rfl
                rotate_left
                · simp only [Act.put, List.setIfInBounds_toArray, List.set_cons_zero, List.set_cons_succ, i64_w, i32_w]
                  rfl
                refine pure_ (i := 1) (N := some 18) (v := ?_) (a' := ?_) #[true, true, false, false, false, false, false, false, false, false] rfl rfl (any_of HT_.out (by kernel_rfl)) (fun _ _ _ h => h) (Or.inl ⟨by rfl, ?_⟩) ?_ ?_
                rotate_left
                · intro w'
                  go_simp
                  with_reducible rfl
                rotate_left
                · simp only [Act.put, List.setIfInBounds_toArray, List.set_cons_zero, List.set_cons_succ, i64_w, i32_w]
                  rfl
                refine pure_ (i := 2) (N := some 19) (v := ?_) (a' := ?_) #[true, true, true, false, false, false, false, false, false, false] rfl rfl (any_of HT_.out (by kernel_rfl)) (fun _ _ _ h => h) (Or.inl ⟨by rfl, ?_⟩) ?_ ?_
                rotate_left
                · intro w'
                  go_simp
                  with_reducible rfl
                rotate_left
                · simp only [Act.put, List.setIfInBounds_toArray, List.set_cons_zero, List.set_cons_succ, i64_w, i32_w]
                  rfl
                refine pure_ (i := 4) (N := some 21) (v := ?_) (a' := ?_) #[true, true, true, false, true, false, false, false, false, false] rfl rfl (any_of HT_.out (by kernel_rfl)) (fun _ _ _ h => h) (Or.inl ⟨by rfl, ?_⟩) ?_ ?_
                rotate_left
                · intro w'
                  go_simp
                  with_reducible rfl
                rotate_left
                · simp only [Act.put, List.setIfInBounds_toArray, List.set_cons_zero, List.set_cons_succ, i64_w, i32_w]
                  rfl
                refine pure_ (i := 5) (N := some 22) (v := ?_) (a' := ?_) #[true, true, true, false, true, true, false, false, false, false] rfl rfl (any_of HT_.out (by kernel_rfl)) (fun _ _ _ h => h) (Or.inl ⟨by rfl, ?_⟩) ?_ ?_
                rotate_left
                · intro w'
                  go_simp
                  with_reducible rfl
                rotate_left
                · simp only [Act.put, List.setIfInBounds_toArray, List.set_cons_zero, List.set_cons_succ, i64_w, i32_w]
                  rfl
                refine pure_ (i := 6) (N := some 23) (v := ?_) (a' := ?_) #[true, true, true, false, true, true, true, false, false, false] rfl rfl (any_of HT_.out (by kernel_rfl)) (fun _ _ _ h => h) (Or.inl ⟨by rfl, ?_⟩) ?_ ?_
                rotate_left
                · intro w'
                  go_simp
                  with_reducible rfl
                rotate_left
                · simp only [Act.put, List.setIfInBounds_toArray, List.set_cons_zero, List.set_cons_succ, i64_w, i32_w]
                  rfl
                refine take_ (i := 3) (N := some 20) (v := ?_) (a' := ?_) #[true, true, true, true, true, true, true, false, false, false] rfl rfl (take_ofW HT_.out HW_.out (by kernel_rfl)) (fun _ _ _ h => h) (Or.inl ⟨by rfl, ?_⟩) hHeld ?_ ?_
                rotate_left
                · rintro w' ⟨s0, s1, s2, s3⟩
                  go_simp
                  with_reducible rfl
                rotate_left
                · simp only [Act.put, List.setIfInBounds_toArray, List.set_cons_zero, List.set_cons_succ, i64_w, i32_w]
                  rfl
                refine take_ (i := 7) (N := some 24) (v := ?_) (a' := ?_) #[true, true, true, true, true, true, true, true, false, false] rfl rfl (take_ofW HT_.out HW_.out (by kernel_rfl)) (fun _ _ _ h => h) (Or.inl ⟨by rfl, ?_⟩) hHeld ?_ ?_
                rotate_left
                · rintro w' ⟨s0, s1, s2, s3⟩
                  go_simp
                  with_reducible rfl
                rotate_left
                · simp only [Act.put, List.setIfInBounds_toArray, List.set_cons_zero, List.set_cons_succ, i64_w, i32_w]
                  rfl
                refine one_ (i := 8) (N := some 25) #[true, true, true, true, true, true, true, true, true, false] rfl rfl (one_of HT_.out (by kernel_rfl)) (by decide) (fun K hK => ?_)
                refine goes_ Try.func149 (by kernel_rfl) rfl #[.agg #[.int .i64 ((rd_T76 l0 x5_1).f0), .int .i64 ((rd_T76 l0 x5_1).f1)], .agg #[.int .i64 ((rd_T76 l1 x5_1).f0), .int .i64 ((rd_T76 l1 x5_1).f1)]] (by rfl) rfl rfl (by (try simp only [List.map_toArray, List.map_cons, List.map_nil]); first | done | rfl | (simp only [List.length_drop, List.length_take]; rfl)) ?_
                with_reducible refine (laws_eqJump.calls ((rd_T76 l0 x5_1).f0) ((rd_T76 l0 x5_1).f1) ((rd_T76 l1 x5_1).f0) ((rd_T76 l1 x5_1).f1) true _ A7.out).mono ?_
                rintro e w10 ⟨rfl, hb⟩
                refine ⟨_, rfl, ?_⟩
                have n0_ := Aside0.mk (below_step (by repeat (first | (with_reducible first | exact HB.out | apply below_alloc | apply pw_below_drewN | apply below_drew1) | exact HB.out)) hb)
                clear HB
                have HB := n0_
                clear n0_
                (try clear hb)
                (try clear hb2)
                (try clear hk)
                (try clear hi)
                refine hK.out _ _ ⟨((HB.out.cell (World.block_lt_of_cell? w _ hw111_0)).trans hw111_0), ((HB.out.cell (World.block_lt_of_cell? w _ hw111_1)).trans hw111_1), ((HB.out.cell (World.block_lt_of_cell? w _ hw112_0)).trans hw112_0), ((HB.out.cell (World.block_lt_of_cell? w _ hw112_1)).trans hw112_1)⟩ (fun hHeld => ?_)
                clear hK K
                refine norm_ (a' := ?_) ?_ ?_
                rotate_left
                · show Act.put _ (some 25) _ = _
                  simp only [Act.put, List.setIfInBounds_toArray, List.set_cons_zero, List.set_cons_succ, i64_w, i32_w]
                  rfl
                refine pure_ (i := 9) (N := some 26) (v := ?_) (a' := ?_) #[true, true, true, true, true, true, true, true, true, true] rfl rfl (any_of HT_.out (by kernel_rfl)) (fun _ _ _ h => h) (Or.inl ⟨by rfl, ?_⟩) ?_ ?_
                rotate_left
                · intro w'
                  go_simp
                  with_reducible rfl
                rotate_left
                · simp only [Act.put, List.setIfInBounds_toArray, List.set_cons_zero, List.set_cons_succ, i64_w, i32_w]
                  rfl
                refine done_ (done_of HT_.out (by kernel_rfl)) ?_
                try go_wp2
                go_roundg k1
                case measure => have := HK1.out; omega
                case rel => exact ⟨(wrap64 (x5_1 + 1)), (by first | rfl | (simp; done) | (simp [*]; done)), H', ⟨by have := HK1.out; omega⟩, ⟨by repeat (first | (with_reducible first | exact HB.out | apply below_alloc | apply pw_below_drewN | apply below_drew1) | exact HB.out)⟩⟩
              · replace c8 := Bool.eq_false_iff.mpr c8
                subst c8
                have H1 : (some false) = some r := by rw [if_neg (show ¬ (false = true) by decide)] at H; exact H
                clear H
                have H := H1
                clear H1
                obtain rfl := Option.some.inj H
                try go_wp2
                have n0_ := Aside0.mk (below_drew1 HB.out)
                clear HB
                have HB := n0_
                clear n0_
                have p111 : 0 ≤ (x5_1 : Int) := of_decide_eq_true (by first | (with_reducible assumption) | assumption)
                have q111 : x5_1 < (l0.length : Int) := of_decide_eq_true (by first | (with_reducible assumption) | assumption)
                obtain ⟨ad111, e111, hx111_0, hx111_1⟩ := at_T76 HR0.out x5_1 p111 q111
                have hw111_1 := hx111_1
                have hw111_0 := hx111_0
                cases e111
                replace hx111_0 := (HB.out.cell (World.block_lt_of_cell? w _ hx111_0)).trans hx111_0
                replace hx111_1 := (HB.out.cell (World.block_lt_of_cell? w _ hx111_1)).trans hx111_1
                replace p111 := eq_true p111
                replace q111 := eq_true q111
                have p112 : 0 ≤ (x5_1 : Int) := of_decide_eq_true (by first | (with_reducible assumption) | assumption)
                have q112 : x5_1 < (l1.length : Int) := of_decide_eq_true (by first | (with_reducible assumption) | assumption)
                obtain ⟨ad112, e112, hx112_0, hx112_1⟩ := at_T76 HR1.out x5_1 p112 q112
                have hw112_1 := hx112_1
                have hw112_0 := hx112_0
                cases e112
                replace hx112_0 := (HB.out.cell (World.block_lt_of_cell? w _ hx112_0)).trans hx112_0
                replace hx112_1 := (HB.out.cell (World.block_lt_of_cell? w _ hx112_1)).trans hx112_1
                replace p112 := eq_true p112
                replace q112 := eq_true q112
                refine start_ (n := 10) (S := fun w' => w'.cell? (ad111.add ((x5_1).toNat * 2)) = some (.int .i64 ((rd_T76 l0 x5_1).f0)) ∧ w'.cell? ⟨(ad111.add ((x5_1).toNat * 2)).block, (ad111.add ((x5_1).toNat * 2)).off + 1, none⟩ = some (.int .i64 ((rd_T76 l0 x5_1).f1)) ∧ w'.cell? (ad112.add ((x5_1).toNat * 2)) = some (.int .i64 ((rd_T76 l1 x5_1).f0)) ∧ w'.cell? ⟨(ad112.add ((x5_1).toNat * 2)).block, (ad112.add ((x5_1).toNat * 2)).off + 1, none⟩ = some (.int .i64 ((rd_T76 l1 x5_1).f1))) (ds := []) #[false, false, false, false, false, false, false, false, false, false] (by kernel_rfl) rfl rfl ⟨((HB.out.cell (World.block_lt_of_cell? w _ hw111_0)).trans hw111_0), ((HB.out.cell (World.block_lt_of_cell? w _ hw111_1)).trans hw111_1), ((HB.out.cell (World.block_lt_of_cell? w _ hw112_0)).trans hw112_0), ((HB.out.cell (World.block_lt_of_cell? w _ hw112_1)).trans hw112_1)⟩ (fun hHeld => ?_); refine with_tabW laws_eqJumpS.tab6 laws_eqJumpS.bits6 (fun HT_ HW_ => ?_)
                generalize wr.drew = w11 at HB hx111_0 hx111_1 hx112_0 hx112_1 hHeld ⊢
                refine pure_ (i := 0) (N := some 17) (v := ?_) (a' := ?_) #[true, false, false, false, false, false, false, false, false, false] rfl rfl (any_of HT_.out (by kernel_rfl)) (fun _ _ _ h => h) (Or.inl ⟨by rfl, ?_⟩) ?_ ?_
                rotate_left
                · intro w'
                  go_simp
                  with_reducible rfl
                rotate_left
                · simp only [Act.put, List.setIfInBounds_toArray, List.set_cons_zero, List.set_cons_succ, i64_w, i32_w]
                  rfl
                refine pure_ (i := 1) (N := some 18) (v := ?_) (a' := ?_) #[true, true, false, false, false, false, false, false, false, false] rfl rfl (any_of HT_.out (by kernel_rfl)) (fun _ _ _ h => h) (Or.inl ⟨by rfl, ?_⟩) ?_ ?_
                rotate_left
                · intro w'
                  go_simp
                  with_reducible rfl
                rotate_left
                · simp only [Act.put, List.setIfInBounds_toArray, List.set_cons_zero, List.set_cons_succ, i64_w, i32_w]
                  rfl
                refine pure_ (i := 2) (N := some 19) (v := ?_) (a' := ?_) #[true, true, true, false, false, false, false, false, false, false] rfl rfl (any_of HT_.out (by kernel_rfl)) (fun _ _ _ h => h) (Or.inl ⟨by rfl, ?_⟩) ?_ ?_
                rotate_left
                · intro w'
                  go_simp
                  with_reducible rfl
                rotate_left
                · simp only [Act.put, List.setIfInBounds_toArray, List.set_cons_zero, List.set_cons_succ, i64_w, i32_w]
                  rfl
                refine pure_ (i := 4) (N := some 21) (v := ?_) (a' := ?_) #[true, true, true, false, true, false, false, false, false, false] rfl rfl (any_of HT_.out (by kernel_rfl)) (fun _ _ _ h => h) (Or.inl ⟨by rfl, ?_⟩) ?_ ?_
                rotate_left
                · intro w'
                  go_simp
                  with_reducible rfl
                rotate_left
                · simp only [Act.put, List.setIfInBounds_toArray, List.set_cons_zero, List.set_cons_succ, i64_w, i32_w]
                  rfl
                refine pure_ (i := 5) (N := some 22) (v := ?_) (a' := ?_) #[true, true, true, false, true, true, false, false, false, false] rfl rfl (any_of HT_.out (by kernel_rfl)) (fun _ _ _ h => h) (Or.inl ⟨by rfl, ?_⟩) ?_ ?_
                rotate_left
                · intro w'
                  go_simp
                  with_reducible rfl
                rotate_left
                · simp only [Act.put, List.setIfInBounds_toArray, List.set_cons_zero, List.set_cons_succ, i64_w, i32_w]
                  rfl
                refine pure_ (i := 6) (N := some 23) (v := ?_) (a' := ?_) #[true, true, true, false, true, true, true, false, false, false] rfl rfl (any_of HT_.out (by kernel_rfl)) (fun _ _ _ h => h) (Or.inl ⟨by rfl, ?_⟩) ?_ ?_
                rotate_left
                · intro w'
                  go_simp
                  with_reducible rfl
                rotate_left
                · simp only [Act.put, List.setIfInBounds_toArray, List.set_cons_zero, List.set_cons_succ, i64_w, i32_w]
                  rfl
                refine take_ (i := 3) (N := some 20) (v := ?_) (a' := ?_) #[true, true, true, true, true, true, true, false, false, false] rfl rfl (take_ofW HT_.out HW_.out (by kernel_rfl)) (fun _ _ _ h => h) (Or.inl ⟨by rfl, ?_⟩) hHeld ?_ ?_
                rotate_left
                · rintro w' ⟨s0, s1, s2, s3⟩
                  go_simp
                  with_reducible rfl
                rotate_left
                · simp only [Act.put, List.setIfInBounds_toArray, List.set_cons_zero, List.set_cons_succ, i64_w, i32_w]
                  rfl
                refine take_ (i := 7) (N := some 24) (v := ?_) (a' := ?_) #[true, true, true, true, true, true, true, true, false, false] rfl rfl (take_ofW HT_.out HW_.out (by kernel_rfl)) (fun _ _ _ h => h) (Or.inl ⟨by rfl, ?_⟩) hHeld ?_ ?_
                rotate_left
                · rintro w' ⟨s0, s1, s2, s3⟩
                  go_simp
                  with_reducible rfl
                rotate_left
                · simp only [Act.put, List.setIfInBounds_toArray, List.set_cons_zero, List.set_cons_succ, i64_w, i32_w]
                  rfl
                refine one_ (i := 8) (N := some 25) #[true, true, true, true, true, true, true, true, true, false] rfl rfl (one_of HT_.out (by kernel_rfl)) (by decide) (fun K hK => ?_)
                refine goes_ Try.func149 (by kernel_rfl) rfl #[.agg #[.int .i64 ((rd_T76 l0 x5_1).f0), .int .i64 ((rd_T76 l0 x5_1).f1)], .agg #[.int .i64 ((rd_T76 l1 x5_1).f0), .int .i64 ((rd_T76 l1 x5_1).f1)]] (by rfl) rfl rfl (by (try simp only [List.map_toArray, List.map_cons, List.map_nil]); first | done | rfl | (simp only [List.length_drop, List.length_take]; rfl)) ?_
                with_reducible refine (laws_eqJump.calls ((rd_T76 l0 x5_1).f0) ((rd_T76 l0 x5_1).f1) ((rd_T76 l1 x5_1).f0) ((rd_T76 l1 x5_1).f1) false _ A7.out).mono ?_
                rintro e w12 ⟨rfl, hb⟩
                refine ⟨_, rfl, ?_⟩
                have n0_ := Aside0.mk (below_step (by repeat (first | (with_reducible first | exact HB.out | apply below_alloc | apply pw_below_drewN | apply below_drew1) | exact HB.out)) hb)
                clear HB
                have HB := n0_
                clear n0_
                (try clear hb)
                (try clear hb2)
                (try clear hk)
                (try clear hi)
                refine hK.out _ _ ⟨((HB.out.cell (World.block_lt_of_cell? w _ hw111_0)).trans hw111_0), ((HB.out.cell (World.block_lt_of_cell? w _ hw111_1)).trans hw111_1), ((HB.out.cell (World.block_lt_of_cell? w _ hw112_0)).trans hw112_0), ((HB.out.cell (World.block_lt_of_cell? w _ hw112_1)).trans hw112_1)⟩ (fun hHeld => ?_)
                clear hK K
                refine norm_ (a' := ?_) ?_ ?_
                rotate_left
                · show Act.put _ (some 25) _ = _
                  simp only [Act.put, List.setIfInBounds_toArray, List.set_cons_zero, List.set_cons_succ, i64_w, i32_w]
                  rfl
                refine pure_ (i := 9) (N := some 26) (v := ?_) (a' := ?_) #[true, true, true, true, true, true, true, true, true, true] rfl rfl (any_of HT_.out (by kernel_rfl)) (fun _ _ _ h => h) (Or.inl ⟨by rfl, ?_⟩) ?_ ?_
                rotate_left
                · intro w'
                  go_simp
                  with_reducible rfl
                rotate_left
                · simp only [Act.put, List.setIfInBounds_toArray, List.set_cons_zero, List.set_cons_succ, i64_w, i32_w]
                  rfl
                refine done_ (done_of HT_.out (by kernel_rfl)) ?_
                try go_wp2
                go_ret
                exact ⟨by first | rfl | (simp [errW_none, errW_some] <;> rfl) | (simp [*, errW_none, errW_some] <;> rfl), by repeat (first | (with_reducible first | exact HB.out | apply below_alloc | apply pw_below_drewN | apply below_drew1) | exact HB.out)⟩
            · rw [if_neg c6] at H
              exact absurd H (by simp)
          · rw [if_neg c5] at H
            exact absurd H (by simp)
        · rw [if_neg c4] at H
          have c4b0 : decide (x5_1 < (l0.length : Int)) = false := decide_eq_false c4
          clear c4
          obtain rfl := Option.some.inj H
          go_wp2
          go_ret
          exact ⟨by first | rfl | (simp [errW_none, errW_some] <;> rfl) | (simp [*, errW_none, errW_some] <;> rfl), by repeat (first | (with_reducible first | exact HB.out | apply below_alloc | apply pw_below_drewN | apply below_drew1) | exact HB.out)⟩
  · rw [if_neg c3] at H
    have c3b0 : ((l0.length : Int) == (l1.length : Int)) = false := beq_eq_false_iff_ne.mpr c3
    have c3b1 : ((l0.length : Int) != (l1.length : Int)) = true := bne_iff_ne.mpr c3
    have c3b2 : (l0.length == l1.length) = false := by first | simpa using c3 | (simp at c3 ⊢; omega)
    obtain rfl := Option.some.inj H
    go_enter Try.func92, Try.ntmps92
    go_wp2
    go_ret
    exact ⟨by first | rfl | (simp [errW_none, errW_some] <;> rfl) | (simp [*, errW_none, errW_some] <;> rfl), by repeat (first | (with_reducible first | exact HB.out | apply below_alloc | apply pw_below_drewN | apply below_drew1) | exact HB.out)⟩
end Go.Proofs.Ytnoejflancomaaa.P
end

section
namespace Go.Proofs.Ytnoejflancomaaa.P
open Go.RowKit Go.Proofs.YtnoejflancomaaaW.PrintWords Go.Proofs.YtnoejflancomaaaW.PrintLast Go.Proofs.YtnoejflancomaaaW.PrintMore
attribute [local go_sem] max2_int min2_int max_two min_two max_three min_three max_four min_four
set_option linter.unusedVariables false
set_option linter.unusedSimpArgs false
def laws_eqBoard.f (k : Nat) (a0_0 : Int) (a0_1 : Int) (a0_2 : Int) (l0_3 : List (S76)) (a1_0 : Int) (a1_1 : Int) (a1_2 : Int) (l1_3 : List (S76)) : Option (Bool) := if a0_0 = a1_0 then (if a0_1 = a1_1 then (if a0_2 = a1_2 then ((laws_eqJumpS.f k l0_3 l1_3).bind fun t116 => (if t116 = true then (some true) else (some false))) else (some false)) else (some false)) else (some false)
theorem laws_eqBoard.mono : ∀ a0 a1 a2 a3 a4 a5 a6 a7 k, LeO (laws_eqBoard.f k a0 a1 a2 a3 a4 a5 a6 a7) (laws_eqBoard.f (k + 1) a0 a1 a2 a3 a4 a5 a6 a7) := by
  intro a0 a1 a2 a3 a4 a5 a6 a7 k
  unfold laws_eqBoard.f
  repeat' first
      | (with_reducible exact laws_eqJumpS.mono _ _ _)
      | (with_reducible exact LeO.refl _)
      | (with_reducible exact LeO.none _)
      | (with_reducible refine LeO.ite ?_ ?_)
      | (with_reducible refine LeO.bind ?_ (fun _ => ?_))
      | exact laws_eqJumpS.mono _ _ _
      | exact LeO.none _
      | refine LeO.ite ?_ ?_
      | refine LeO.bind ?_ (fun _ => ?_)
set_option maxHeartbeats 8000000 in
set_option maxRecDepth 100000 in
theorem laws_eqBoard.calls (k : Nat) (a0_0 : Int) (a0_1 : Int) (a0_2 : Int) (A0_3 : Option Addr) (c0_3 : Nat) (l0_3 : List (S76)) (a1_0 : Int) (a1_1 : Int) (a1_2 : Int) (A1_3 : Option Addr) (c1_3 : Nat) (l1_3 : List (S76)) (r : Bool) (w : World) (hr0_3 : Kd.C k76 w A0_3 l0_3.length l0_3) (hc0_3 : l0_3.length ≤ c0_3) (hr1_3 : Kd.C k76 w A1_3 l1_3.length l1_3) (hc1_3 : l1_3.length ≤ c1_3) (h : laws_eqBoard.f k a0_0 a0_1 a0_2 l0_3 a1_0 a1_1 a1_2 l1_3 = some r) :
    Calls Try.prog 36 #[.agg #[.int .i64 a0_0, .int .i64 a0_1, .int .i64 a0_2, .slice A0_3 l0_3.length c0_3], .agg #[.int .i64 a1_0, .int .i64 a1_1, .int .i64 a1_2, .slice A1_3 l1_3.length c1_3]] w fun e w' => e = .returned (.bool r) ∧ Below w.heap.size w w' := by
  have hu24 := Try.underlying24
  have HR0_3 := Aside0.mk hr0_3
  have HC0_3 := Aside0.mk hc0_3
  clear hr0_3 hc0_3
  have HR1_3 := Aside0.mk hr1_3
  have HC1_3 := Aside0.mk hc1_3
  clear hr1_3 hc1_3
  have HB := Aside0.mk (Below.refl w.heap.size w)
  have H : (if a0_0 = a1_0 then (if a0_1 = a1_1 then (if a0_2 = a1_2 then ((laws_eqJumpS.f k l0_3 l1_3).bind fun t116 => (if t116 = true then (some true) else (some false))) else (some false)) else (some false)) else (some false)) = some r := h
  clear h
  by_cases c3 : a0_0 = a1_0
  · rw [if_pos c3] at H
    have c3b0 : (a0_0 == a1_0) = true := beq_iff_eq.mpr c3
    have c3b1 : (a0_0 != a1_0) = false := bne_eq_false_iff_eq.mpr c3
    clear c3
    by_cases c4 : a0_1 = a1_1
    · rw [if_pos c4] at H
      have c4b0 : (a0_1 == a1_1) = true := beq_iff_eq.mpr c4
      have c4b1 : (a0_1 != a1_1) = false := bne_eq_false_iff_eq.mpr c4
      clear c4
      by_cases c5 : a0_2 = a1_2
      · rw [if_pos c5] at H
        have c5b0 : (a0_2 == a1_2) = true := beq_iff_eq.mpr c5
        have c5b1 : (a0_2 != a1_2) = false := bne_eq_false_iff_eq.mpr c5
        clear c5
        replace H := Option.bind_eq_some_iff.mp H
        obtain ⟨t116, A60, H⟩ := H
        replace H : (if t116 = true then (some true) else (some false)) = some r := H
        have A6 := Aside0.mk A60
        clear A60
        by_cases c7 : t116 = true
        · subst c7
          have H1 : (some true) = some r := by rw [if_pos rfl] at H; exact H
          clear H
          have H := H1
          clear H1
          obtain rfl := Option.some.inj H
          go_enter Try.func36, Try.ntmps36
          go_wp2_with (first | ((with_reducible refine gate_dst (N := 2) rfl ?_); refine box_event ?hg (N := 2) ?hd (cs := #[.int .i64 a0_0, .int .i64 a0_1, .int .i64 a0_2, .slice A0_3 l0_3.length c0_3]) (t := 24) ?hr ?_; (case hd => rfl); (case hg => rfl); (case hr => first | (go_simp; done) | (go_simp; rfl)); intro gb114 hg w8 hbox hb; have n0_ := Aside0.mk (below_step (by repeat (first | (with_reducible first | exact HB.out | apply below_alloc | apply pw_below_drewN | apply below_drew1) | exact HB.out)) hb); have n1_ := Aside0.mk (hbox); have n2_ := Aside0.mk ((by rw [hg]; exact (below_size (by repeat (first | (with_reducible first | exact HB.out | apply below_alloc | apply pw_below_drewN | apply below_drew1) | exact HB.out))) : w.heap.size ≤ gb114)); have n3_ := Aside0.mk ((by rw [hg]; exact (below_size (by repeat (first | (with_reducible first | exact HB.out | apply below_alloc | apply pw_below_drewN | apply below_drew1) | exact HB.out))) : w.heap.size ≤ gb114)); clear HB; have HB := n0_; have BK114 := n1_; have GW114 := n2_; have GE114 := n3_; clear n0_ n1_ n2_ n3_; clear hb hbox hg) | ((with_reducible refine gate_dst (N := 3) rfl ?_); refine box_event ?hg (N := 3) ?hd (cs := #[.int .i64 a1_0, .int .i64 a1_1, .int .i64 a1_2, .slice A1_3 l1_3.length c1_3]) (t := 24) ?hr ?_; (case hd => rfl); (case hg => rfl); (case hr => first | (go_simp; done) | (go_simp; rfl)); intro gb115 hg w9 hbox hb; have n0_ := Aside0.mk (blk_below (g := gb114) (o := .cells #[.int .i64 a0_0, .int .i64 a0_1, .int .i64 a0_2, .slice A0_3 l0_3.length c0_3] 24 (0, 0)) (by (with_reducible repeat (first | refine blk_drewN ?_ _ | refine blk_drew ?_ | refine blk_alloc ?_ _)); exact BK114.out) hb); have n1_ := Aside0.mk (below_step (by repeat (first | (with_reducible first | exact HB.out | apply below_alloc | apply pw_below_drewN | apply below_drew1 | refine below_set ?_ GE114.out) | exact HB.out)) hb); have n2_ := Aside0.mk (hbox); have n3_ := Aside0.mk ((by rw [hg]; exact (below_size (by repeat (first | (with_reducible first | exact HB.out | apply below_alloc | apply pw_below_drewN | apply below_drew1 | refine below_set ?_ GE114.out) | exact HB.out))) : w.heap.size ≤ gb115)); have n4_ := Aside0.mk ((by rw [hg]; exact (below_size (by repeat (first | (with_reducible first | exact HB.out | apply below_alloc | apply pw_below_drewN | apply below_drew1 | refine below_set ?_ GE114.out) | exact HB.out))) : w.heap.size ≤ gb115)); have n5_ := Aside0.mk ((by rw [hg]; exact Nat.ne_of_lt (blk_lt (g := gb114) (o := .cells #[.int .i64 a0_0, .int .i64 a0_1, .int .i64 a0_2, .slice A0_3 l0_3.length c0_3] 24 (0, 0)) (by (with_reducible repeat (first | refine blk_drewN ?_ _ | refine blk_drew ?_ | refine blk_alloc ?_ _)); exact BK114.out)) : gb114 ≠ gb115)); have n6_ := Aside0.mk ((by rw [hg]; exact Nat.ne_of_gt (blk_lt (g := gb114) (o := .cells #[.int .i64 a0_0, .int .i64 a0_1, .int .i64 a0_2, .slice A0_3 l0_3.length c0_3] 24 (0, 0)) (by (with_reducible repeat (first | refine blk_drewN ?_ _ | refine blk_drew ?_ | refine blk_alloc ?_ _)); exact BK114.out)) : gb115 ≠ gb114)); clear BK114; clear HB; have BK114 := n0_; have HB := n1_; have BK115 := n2_; have GW115 := n3_; have GE115 := n4_; have NB114_115 := n5_; have NB115_114 := n6_; clear n0_ n1_ n2_ n3_ n4_ n5_ n6_; clear hb hbox hg; have hnb10 := NB114_115.out; have hnc10 := NB115_114.out; have hcz11_0 : w9.cell? ⟨gb114, 0, none⟩ = some (.int .i64 a0_0) := (blk_cell BK114.out 0).trans rfl; have hcz11_1 : w9.cell? ⟨gb114, 1, none⟩ = some (.int .i64 a0_1) := (blk_cell BK114.out 1).trans rfl; have hcz11_2 : w9.cell? ⟨gb114, 2, none⟩ = some (.int .i64 a0_2) := (blk_cell BK114.out 2).trans rfl; have hcz11_3 : w9.cell? ⟨gb114, 3, none⟩ = some (.slice A0_3 l0_3.length c0_3) := (blk_cell BK114.out 3).trans rfl; have hfz11_0 := blk_frozen BK114.out 0; have hfz11_1 := blk_frozen BK114.out 1; have hfz11_2 := blk_frozen BK114.out 2; have hfz11_3 := blk_frozen BK114.out 3; have hcz12_0 : w9.cell? ⟨gb115, 0, none⟩ = some (.int .i64 a1_0) := (blk_cell BK115.out 0).trans rfl; have hcz12_1 : w9.cell? ⟨gb115, 1, none⟩ = some (.int .i64 a1_1) := (blk_cell BK115.out 1).trans rfl; have hcz12_2 : w9.cell? ⟨gb115, 2, none⟩ = some (.int .i64 a1_2) := (blk_cell BK115.out 2).trans rfl; have hcz12_3 : w9.cell? ⟨gb115, 3, none⟩ = some (.slice A1_3 l1_3.length c1_3) := (blk_cell BK115.out 3).trans rfl; have hfz12_0 := blk_frozen BK115.out 0; have hfz12_1 := blk_frozen BK115.out 1; have hfz12_2 := blk_frozen BK115.out 2; have hfz12_3 := blk_frozen BK115.out 3) | ((with_reducible refine gate_callee (f := 92) rfl ?_); refine goesL_ (some 24) rfl rfl Try.func92 (by kernel_rfl) rfl #[.slice A0_3 l0_3.length c0_3, .slice A1_3 l1_3.length c1_3] rfl (by (try simp only [List.map_toArray, List.map_cons, List.map_nil]); first | done | rfl | (simp only [List.length_drop, List.length_take]; rfl)) ?_; (with_reducible refine (laws_eqJumpS.calls k _ _ l0_3 _ _ l1_3 true _ ?side1 ?side2 ?side3 ?side4 A6.out).mono ?_); (case side1 => repeat (first | exact (Kd.C_below HR0_3.out HB.out) | (with_reducible refine Kd.C_alloc ?_ _) | (with_reducible refine Kd.C_drewN ?_ _) | (with_reducible refine Kd.C_drew ?_))); (case side2 => exact HC0_3.out); (case side3 => repeat (first | exact (Kd.C_below HR1_3.out HB.out) | (with_reducible refine Kd.C_alloc ?_ _) | (with_reducible refine Kd.C_drewN ?_ _) | (with_reducible refine Kd.C_drew ?_))); (case side4 => exact HC1_3.out); rintro e w13 ⟨rfl, hb⟩; refine ⟨_, rfl, ?_⟩; have n0_ := Aside0.mk (blk_below (g := gb114) (o := .cells #[.int .i64 a0_0, .int .i64 a0_1, .int .i64 a0_2, .slice A0_3 l0_3.length c0_3] 24 (0, 0)) (by (with_reducible repeat (first | refine blk_drewN ?_ _ | refine blk_drew ?_ | refine blk_alloc ?_ _)); exact BK114.out) hb); have n1_ := Aside0.mk (blk_below (g := gb115) (o := .cells #[.int .i64 a1_0, .int .i64 a1_1, .int .i64 a1_2, .slice A1_3 l1_3.length c1_3] 24 (0, 0)) (by (with_reducible repeat (first | refine blk_drewN ?_ _ | refine blk_drew ?_ | refine blk_alloc ?_ _)); exact BK115.out) hb); have n2_ := Aside0.mk (below_step (by repeat (first | (with_reducible first | exact HB.out | apply below_alloc | apply pw_below_drewN | apply below_drew1 | refine below_set ?_ GE114.out | refine below_set ?_ GE115.out) | exact HB.out)) hb); clear BK114; clear BK115; clear HB; have BK114 := n0_; have BK115 := n1_; have HB := n2_; clear n0_ n1_ n2_; (try clear hb); (try clear hb2); (try clear hk); (try clear hi)))
          go_ret
          exact ⟨by first | rfl | (simp [errW_none, errW_some] <;> rfl) | (simp [*, errW_none, errW_some] <;> rfl), by repeat (first | (with_reducible first | exact HB.out | apply below_alloc | apply pw_below_drewN | apply below_drew1 | refine below_set ?_ GE114.out | refine below_set ?_ GE115.out) | exact HB.out)⟩
        · replace c7 := Bool.eq_false_iff.mpr c7
          subst c7
          have H1 : (some false) = some r := by rw [if_neg (show ¬ (false = true) by decide)] at H; exact H
          clear H
          have H := H1
          clear H1
          obtain rfl := Option.some.inj H
          go_enter Try.func36, Try.ntmps36
          go_wp2_with (first | ((with_reducible refine gate_dst (N := 2) rfl ?_); refine box_event ?hg (N := 2) ?hd (cs := #[.int .i64 a0_0, .int .i64 a0_1, .int .i64 a0_2, .slice A0_3 l0_3.length c0_3]) (t := 24) ?hr ?_; (case hd => rfl); (case hg => rfl); (case hr => first | (go_simp; done) | (go_simp; rfl)); intro gb114 hg w14 hbox hb; have n0_ := Aside0.mk (below_step (by repeat (first | (with_reducible first | exact HB.out | apply below_alloc | apply pw_below_drewN | apply below_drew1) | exact HB.out)) hb); have n1_ := Aside0.mk (hbox); have n2_ := Aside0.mk ((by rw [hg]; exact (below_size (by repeat (first | (with_reducible first | exact HB.out | apply below_alloc | apply pw_below_drewN | apply below_drew1) | exact HB.out))) : w.heap.size ≤ gb114)); have n3_ := Aside0.mk ((by rw [hg]; exact (below_size (by repeat (first | (with_reducible first | exact HB.out | apply below_alloc | apply pw_below_drewN | apply below_drew1) | exact HB.out))) : w.heap.size ≤ gb114)); clear HB; have HB := n0_; have BK114 := n1_; have GW114 := n2_; have GE114 := n3_; clear n0_ n1_ n2_ n3_; clear hb hbox hg) | ((with_reducible refine gate_dst (N := 3) rfl ?_); refine box_event ?hg (N := 3) ?hd (cs := #[.int .i64 a1_0, .int .i64 a1_1, .int .i64 a1_2, .slice A1_3 l1_3.length c1_3]) (t := 24) ?hr ?_; (case hd => rfl); (case hg => rfl); (case hr => first | (go_simp; done) | (go_simp; rfl)); intro gb115 hg w15 hbox hb; have n0_ := Aside0.mk (blk_below (g := gb114) (o := .cells #[.int .i64 a0_0, .int .i64 a0_1, .int .i64 a0_2, .slice A0_3 l0_3.length c0_3] 24 (0, 0)) (by (with_reducible repeat (first | refine blk_drewN ?_ _ | refine blk_drew ?_ | refine blk_alloc ?_ _)); exact BK114.out) hb); have n1_ := Aside0.mk (below_step (by repeat (first | (with_reducible first | exact HB.out | apply below_alloc | apply pw_below_drewN | apply below_drew1 | refine below_set ?_ GE114.out) | exact HB.out)) hb); have n2_ := Aside0.mk (hbox); have n3_ := Aside0.mk ((by rw [hg]; exact (below_size (by repeat (first | (with_reducible first | exact HB.out | apply below_alloc | apply pw_below_drewN | apply below_drew1 | refine below_set ?_ GE114.out) | exact HB.out))) : w.heap.size ≤ gb115)); have n4_ := Aside0.mk ((by rw [hg]; exact (below_size (by repeat (first | (with_reducible first | exact HB.out | apply below_alloc | apply pw_below_drewN | apply below_drew1 | refine below_set ?_ GE114.out) | exact HB.out))) : w.heap.size ≤ gb115)); have n5_ := Aside0.mk ((by rw [hg]; exact Nat.ne_of_lt (blk_lt (g := gb114) (o := .cells #[.int .i64 a0_0, .int .i64 a0_1, .int .i64 a0_2, .slice A0_3 l0_3.length c0_3] 24 (0, 0)) (by (with_reducible repeat (first | refine blk_drewN ?_ _ | refine blk_drew ?_ | refine blk_alloc ?_ _)); exact BK114.out)) : gb114 ≠ gb115)); have n6_ := Aside0.mk ((by rw [hg]; exact Nat.ne_of_gt (blk_lt (g := gb114) (o := .cells #[.int .i64 a0_0, .int .i64 a0_1, .int .i64 a0_2, .slice A0_3 l0_3.length c0_3] 24 (0, 0)) (by (with_reducible repeat (first | refine blk_drewN ?_ _ | refine blk_drew ?_ | refine blk_alloc ?_ _)); exact BK114.out)) : gb115 ≠ gb114)); clear BK114; clear HB; have BK114 := n0_; have HB := n1_; have BK115 := n2_; have GW115 := n3_; have GE115 := n4_; have NB114_115 := n5_; have NB115_114 := n6_; clear n0_ n1_ n2_ n3_ n4_ n5_ n6_; clear hb hbox hg; have hnb16 := NB114_115.out; have hnc16 := NB115_114.out; have hcz17_0 : w15.cell? ⟨gb114, 0, none⟩ = some (.int .i64 a0_0) := (blk_cell BK114.out 0).trans rfl; have hcz17_1 : w15.cell? ⟨gb114, 1, none⟩ = some (.int .i64 a0_1) := (blk_cell BK114.out 1).trans rfl; have hcz17_2 : w15.cell? ⟨gb114, 2, none⟩ = some (.int .i64 a0_2) := (blk_cell BK114.out 2).trans rfl; have hcz17_3 : w15.cell? ⟨gb114, 3, none⟩ = some (.slice A0_3 l0_3.length c0_3) := (blk_cell BK114.out 3).trans rfl; have hfz17_0 := blk_frozen BK114.out 0; have hfz17_1 := blk_frozen BK114.out 1; have hfz17_2 := blk_frozen BK114.out 2; have hfz17_3 := blk_frozen BK114.out 3; have hcz18_0 : w15.cell? ⟨gb115, 0, none⟩ = some (.int .i64 a1_0) := (blk_cell BK115.out 0).trans rfl; have hcz18_1 : w15.cell? ⟨gb115, 1, none⟩ = some (.int .i64 a1_1) := (blk_cell BK115.out 1).trans rfl; have hcz18_2 : w15.cell? ⟨gb115, 2, none⟩ = some (.int .i64 a1_2) := (blk_cell BK115.out 2).trans rfl; have hcz18_3 : w15.cell? ⟨gb115, 3, none⟩ = some (.slice A1_3 l1_3.length c1_3) := (blk_cell BK115.out 3).trans rfl; have hfz18_0 := blk_frozen BK115.out 0; have hfz18_1 := blk_frozen BK115.out 1; have hfz18_2 := blk_frozen BK115.out 2; have hfz18_3 := blk_frozen BK115.out 3) | ((with_reducible refine gate_callee (f := 92) rfl ?_); refine goesL_ (some 24) rfl rfl Try.func92 (by kernel_rfl) rfl #[.slice A0_3 l0_3.length c0_3, .slice A1_3 l1_3.length c1_3] rfl (by (try simp only [List.map_toArray, List.map_cons, List.map_nil]); first | done | rfl | (simp only [List.length_drop, List.length_take]; rfl)) ?_; (with_reducible refine (laws_eqJumpS.calls k _ _ l0_3 _ _ l1_3 false _ ?side1 ?side2 ?side3 ?side4 A6.out).mono ?_); (case side1 => repeat (first | exact (Kd.C_below HR0_3.out HB.out) | (with_reducible refine Kd.C_alloc ?_ _) | (with_reducible refine Kd.C_drewN ?_ _) | (with_reducible refine Kd.C_drew ?_))); (case side2 => exact HC0_3.out); (case side3 => repeat (first | exact (Kd.C_below HR1_3.out HB.out) | (with_reducible refine Kd.C_alloc ?_ _) | (with_reducible refine Kd.C_drewN ?_ _) | (with_reducible refine Kd.C_drew ?_))); (case side4 => exact HC1_3.out); rintro e w19 ⟨rfl, hb⟩; refine ⟨_, rfl, ?_⟩; have n0_ := Aside0.mk (blk_below (g := gb114) (o := .cells #[.int .i64 a0_0, .int .i64 a0_1, .int .i64 a0_2, .slice A0_3 l0_3.length c0_3] 24 (0, 0)) (by (with_reducible repeat (first | refine blk_drewN ?_ _ | refine blk_drew ?_ | refine blk_alloc ?_ _)); exact BK114.out) hb); have n1_ := Aside0.mk (blk_below (g := gb115) (o := .cells #[.int .i64 a1_0, .int .i64 a1_1, .int .i64 a1_2, .slice A1_3 l1_3.length c1_3] 24 (0, 0)) (by (with_reducible repeat (first | refine blk_drewN ?_ _ | refine blk_drew ?_ | refine blk_alloc ?_ _)); exact BK115.out) hb); have n2_ := Aside0.mk (below_step (by repeat (first | (with_reducible first | exact HB.out | apply below_alloc | apply pw_below_drewN | apply below_drew1 | refine below_set ?_ GE114.out | refine below_set ?_ GE115.out) | exact HB.out)) hb); clear BK114; clear BK115; clear HB; have BK114 := n0_; have BK115 := n1_; have HB := n2_; clear n0_ n1_ n2_; (try clear hb); (try clear hb2); (try clear hk); (try clear hi)))
          go_ret
          exact ⟨by first | rfl | (simp [errW_none, errW_some] <;> rfl) | (simp [*, errW_none, errW_some] <;> rfl), by repeat (first | (with_reducible first | exact HB.out | apply below_alloc | apply pw_below_drewN | apply below_drew1 | refine below_set ?_ GE114.out | refine below_set ?_ GE115.out) | exact HB.out)⟩
      · rw [if_neg c5] at H
        have c5b0 : (a0_2 == a1_2) = false := beq_eq_false_iff_ne.mpr c5
        have c5b1 : (a0_2 != a1_2) = true := bne_iff_ne.mpr c5
        obtain rfl := Option.some.inj H
        go_enter Try.func36, Try.ntmps36
        go_wp2_with (first | ((with_reducible refine gate_dst (N := 2) rfl ?_); refine box_event ?hg (N := 2) ?hd (cs := #[.int .i64 a0_0, .int .i64 a0_1, .int .i64 a0_2, .slice A0_3 l0_3.length c0_3]) (t := 24) ?hr ?_; (case hd => rfl); (case hg => rfl); (case hr => first | (go_simp; done) | (go_simp; rfl)); intro gb114 hg w20 hbox hb; have n0_ := Aside0.mk (below_step (by repeat (first | (with_reducible first | exact HB.out | apply below_alloc | apply pw_below_drewN | apply below_drew1) | exact HB.out)) hb); have n1_ := Aside0.mk (hbox); have n2_ := Aside0.mk ((by rw [hg]; exact (below_size (by repeat (first | (with_reducible first | exact HB.out | apply below_alloc | apply pw_below_drewN | apply below_drew1) | exact HB.out))) : w.heap.size ≤ gb114)); have n3_ := Aside0.mk ((by rw [hg]; exact (below_size (by repeat (first | (with_reducible first | exact HB.out | apply below_alloc | apply pw_below_drewN | apply below_drew1) | exact HB.out))) : w.heap.size ≤ gb114)); clear HB; have HB := n0_; have BK114 := n1_; have GW114 := n2_; have GE114 := n3_; clear n0_ n1_ n2_ n3_; clear hb hbox hg) | ((with_reducible refine gate_dst (N := 3) rfl ?_); refine box_event ?hg (N := 3) ?hd (cs := #[.int .i64 a1_0, .int .i64 a1_1, .int .i64 a1_2, .slice A1_3 l1_3.length c1_3]) (t := 24) ?hr ?_; (case hd => rfl); (case hg => rfl); (case hr => first | (go_simp; done) | (go_simp; rfl)); intro gb115 hg w21 hbox hb; have n0_ := Aside0.mk (blk_below (g := gb114) (o := .cells #[.int .i64 a0_0, .int .i64 a0_1, .int .i64 a0_2, .slice A0_3 l0_3.length c0_3] 24 (0, 0)) (by (with_reducible repeat (first | refine blk_drewN ?_ _ | refine blk_drew ?_ | refine blk_alloc ?_ _)); exact BK114.out) hb); have n1_ := Aside0.mk (below_step (by repeat (first | (with_reducible first | exact HB.out | apply below_alloc | apply pw_below_drewN | apply below_drew1 | refine below_set ?_ GE114.out) | exact HB.out)) hb); have n2_ := Aside0.mk (hbox); have n3_ := Aside0.mk ((by rw [hg]; exact (below_size (by repeat (first | (with_reducible first | exact HB.out | apply below_alloc | apply pw_below_drewN | apply below_drew1 | refine below_set ?_ GE114.out) | exact HB.out))) : w.heap.size ≤ gb115)); have n4_ := Aside0.mk ((by rw [hg]; exact (below_size (by repeat (first | (with_reducible first | exact HB.out | apply below_alloc | apply pw_below_drewN | apply below_drew1 | refine below_set ?_ GE114.out) | exact HB.out))) : w.heap.size ≤ gb115)); have n5_ := Aside0.mk ((by rw [hg]; exact Nat.ne_of_lt (blk_lt (g := gb114) (o := .cells #[.int .i64 a0_0, .int .i64 a0_1, .int .i64 a0_2, .slice A0_3 l0_3.length c0_3] 24 (0, 0)) (by (with_reducible repeat (first | refine blk_drewN ?_ _ | refine blk_drew ?_ | refine blk_alloc ?_ _)); exact BK114.out)) : gb114 ≠ gb115)); have n6_ := Aside0.mk ((by rw [hg]; exact Nat.ne_of_gt (blk_lt (g := gb114) (o := .cells #[.int .i64 a0_0, .int .i64 a0_1, .int .i64 a0_2, .slice A0_3 l0_3.length c0_3] 24 (0, 0)) (by (with_reducible repeat (first | refine blk_drewN ?_ _ | refine blk_drew ?_ | refine blk_alloc ?_ _)); exact BK114.out)) : gb115 ≠ gb114)); clear BK114; clear HB; have BK114 := n0_; have HB := n1_; have BK115 := n2_; have GW115 := n3_; have GE115 := n4_; have NB114_115 := n5_; have NB115_114 := n6_; clear n0_ n1_ n2_ n3_ n4_ n5_ n6_; clear hb hbox hg; have hnb22 := NB114_115.out; have hnc22 := NB115_114.out; have hcz23_0 : w21.cell? ⟨gb114, 0, none⟩ = some (.int .i64 a0_0) := (blk_cell BK114.out 0).trans rfl; have hcz23_1 : w21.cell? ⟨gb114, 1, none⟩ = some (.int .i64 a0_1) := (blk_cell BK114.out 1).trans rfl; have hcz23_2 : w21.cell? ⟨gb114, 2, none⟩ = some (.int .i64 a0_2) := (blk_cell BK114.out 2).trans rfl; have hcz23_3 : w21.cell? ⟨gb114, 3, none⟩ = some (.slice A0_3 l0_3.length c0_3) := (blk_cell BK114.out 3).trans rfl; have hfz23_0 := blk_frozen BK114.out 0; have hfz23_1 := blk_frozen BK114.out 1; have hfz23_2 := blk_frozen BK114.out 2; have hfz23_3 := blk_frozen BK114.out 3; have hcz24_0 : w21.cell? ⟨gb115, 0, none⟩ = some (.int .i64 a1_0) := (blk_cell BK115.out 0).trans rfl; have hcz24_1 : w21.cell? ⟨gb115, 1, none⟩ = some (.int .i64 a1_1) := (blk_cell BK115.out 1).trans rfl; have hcz24_2 : w21.cell? ⟨gb115, 2, none⟩ = some (.int .i64 a1_2) := (blk_cell BK115.out 2).trans rfl; have hcz24_3 : w21.cell? ⟨gb115, 3, none⟩ = some (.slice A1_3 l1_3.length c1_3) := (blk_cell BK115.out 3).trans rfl; have hfz24_0 := blk_frozen BK115.out 0; have hfz24_1 := blk_frozen BK115.out 1; have hfz24_2 := blk_frozen BK115.out 2; have hfz24_3 := blk_frozen BK115.out 3))
        go_ret
        exact ⟨by first | rfl | (simp [errW_none, errW_some] <;> rfl) | (simp [*, errW_none, errW_some] <;> rfl), by repeat (first | (with_reducible first | exact HB.out | apply below_alloc | apply pw_below_drewN | apply below_drew1 | refine below_set ?_ GE114.out | refine below_set ?_ GE115.out) | exact HB.out)⟩
    · rw [if_neg c4] at H
      have c4b0 : (a0_1 == a1_1) = false := beq_eq_false_iff_ne.mpr c4
      have c4b1 : (a0_1 != a1_1) = true := bne_iff_ne.mpr c4
      obtain rfl := Option.some.inj H
      go_enter Try.func36, Try.ntmps36
      go_wp2_with (first | ((with_reducible refine gate_dst (N := 2) rfl ?_); refine box_event ?hg (N := 2) ?hd (cs := #[.int .i64 a0_0, .int .i64 a0_1, .int .i64 a0_2, .slice A0_3 l0_3.length c0_3]) (t := 24) ?hr ?_; (case hd => rfl); (case hg => rfl); (case hr => first | (go_simp; done) | (go_simp; rfl)); intro gb114 hg w25 hbox hb; have n0_ := Aside0.mk (below_step (by repeat (first | (with_reducible first | exact HB.out | apply below_alloc | apply pw_below_drewN | apply below_drew1) | exact HB.out)) hb); have n1_ := Aside0.mk (hbox); have n2_ := Aside0.mk ((by rw [hg]; exact (below_size (by repeat (first | (with_reducible first | exact HB.out | apply below_alloc | apply pw_below_drewN | apply below_drew1) | exact HB.out))) : w.heap.size ≤ gb114)); have n3_ := Aside0.mk ((by rw [hg]; exact (below_size (by repeat (first | (with_reducible first | exact HB.out | apply below_alloc | apply pw_below_drewN | apply below_drew1) | exact HB.out))) : w.heap.size ≤ gb114)); clear HB; have HB := n0_; have BK114 := n1_; have GW114 := n2_; have GE114 := n3_; clear n0_ n1_ n2_ n3_; clear hb hbox hg) | ((with_reducible refine gate_dst (N := 3) rfl ?_); refine box_event ?hg (N := 3) ?hd (cs := #[.int .i64 a1_0, .int .i64 a1_1, .int .i64 a1_2, .slice A1_3 l1_3.length c1_3]) (t := 24) ?hr ?_; (case hd => rfl); (case hg => rfl); (case hr => first | (go_simp; done) | (go_simp; rfl)); intro gb115 hg w26 hbox hb; have n0_ := Aside0.mk (blk_below (g := gb114) (o := .cells #[.int .i64 a0_0, .int .i64 a0_1, .int .i64 a0_2, .slice A0_3 l0_3.length c0_3] 24 (0, 0)) (by (with_reducible repeat (first | refine blk_drewN ?_ _ | refine blk_drew ?_ | refine blk_alloc ?_ _)); exact BK114.out) hb); have n1_ := Aside0.mk (below_step (by repeat (first | (with_reducible first | exact HB.out | apply below_alloc | apply pw_below_drewN | apply below_drew1 | refine below_set ?_ GE114.out) | exact HB.out)) hb); have n2_ := Aside0.mk (hbox); have n3_ := Aside0.mk ((by rw [hg]; exact (below_size (by repeat (first | (with_reducible first | exact HB.out | apply below_alloc | apply pw_below_drewN | apply below_drew1 | refine below_set ?_ GE114.out) | exact HB.out))) : w.heap.size ≤ gb115)); have n4_ := Aside0.mk ((by rw [hg]; exact (below_size (by repeat (first | (with_reducible first | exact HB.out | apply below_alloc | apply pw_below_drewN | apply below_drew1 | refine below_set ?_ GE114.out) | exact HB.out))) : w.heap.size ≤ gb115)); have n5_ := Aside0.mk ((by rw [hg]; exact Nat.ne_of_lt (blk_lt (g := gb114) (o := .cells #[.int .i64 a0_0, .int .i64 a0_1, .int .i64 a0_2, .slice A0_3 l0_3.length c0_3] 24 (0, 0)) (by (with_reducible repeat (first | refine blk_drewN ?_ _ | refine blk_drew ?_ | refine blk_alloc ?_ _)); exact BK114.out)) : gb114 ≠ gb115)); have n6_ := Aside0.mk ((by rw [hg]; exact Nat.ne_of_gt (blk_lt (g := gb114) (o := .cells #[.int .i64 a0_0, .int .i64 a0_1, .int .i64 a0_2, .slice A0_3 l0_3.length c0_3] 24 (0, 0)) (by (with_reducible repeat (first | refine blk_drewN ?_ _ | refine blk_drew ?_ | refine blk_alloc ?_ _)); exact BK114.out)) : gb115 ≠ gb114)); clear BK114; clear HB; have BK114 := n0_; have HB := n1_; have BK115 := n2_; have GW115 := n3_; have GE115 := n4_; have NB114_115 := n5_; have NB115_114 := n6_; clear n0_ n1_ n2_ n3_ n4_ n5_ n6_; clear hb hbox hg; have hnb27 := NB114_115.out; have hnc27 := NB115_114.out; have hcz28_0 : w26.cell? ⟨gb114, 0, none⟩ = some (.int .i64 a0_0) := (blk_cell BK114.out 0).trans rfl; have hcz28_1 : w26.cell? ⟨gb114, 1, none⟩ = some (.int .i64 a0_1) := (blk_cell BK114.out 1).trans rfl; have hcz28_2 : w26.cell? ⟨gb114, 2, none⟩ = some (.int .i64 a0_2) := (blk_cell BK114.out 2).trans rfl; have hcz28_3 : w26.cell? ⟨gb114, 3, none⟩ = some (.slice A0_3 l0_3.length c0_3) := (blk_cell BK114.out 3).trans rfl; have hfz28_0 := blk_frozen BK114.out 0; have hfz28_1 := blk_frozen BK114.out 1; have hfz28_2 := blk_frozen BK114.out 2; have hfz28_3 := blk_frozen BK114.out 3; have hcz29_0 : w26.cell? ⟨gb115, 0, none⟩ = some (.int .i64 a1_0) := (blk_cell BK115.out 0).trans rfl; have hcz29_1 : w26.cell? ⟨gb115, 1, none⟩ = some (.int .i64 a1_1) := (blk_cell BK115.out 1).trans rfl; have hcz29_2 : w26.cell? ⟨gb115, 2, none⟩ = some (.int .i64 a1_2) := (blk_cell BK115.out 2).trans rfl; have hcz29_3 : w26.cell? ⟨gb115, 3, none⟩ = some (.slice A1_3 l1_3.length c1_3) := (blk_cell BK115.out 3).trans rfl; have hfz29_0 := blk_frozen BK115.out 0; have hfz29_1 := blk_frozen BK115.out 1; have hfz29_2 := blk_frozen BK115.out 2; have hfz29_3 := blk_frozen BK115.out 3))
      go_ret
      exact ⟨by first | rfl | (simp [errW_none, errW_some] <;> rfl) | (simp [*, errW_none, errW_some] <;> rfl), by repeat (first | (with_reducible first | exact HB.out | apply below_alloc | apply pw_below_drewN | apply below_drew1 | refine below_set ?_ GE114.out | refine below_set ?_ GE115.out) | exact HB.out)⟩
  · rw [if_neg c3] at H
    have c3b0 : (a0_0 == a1_0) = false := beq_eq_false_iff_ne.mpr c3
    have c3b1 : (a0_0 != a1_0) = true := bne_iff_ne.mpr c3
    obtain rfl := Option.some.inj H
    go_enter Try.func36, Try.ntmps36
    go_wp2_with (first | ((with_reducible refine gate_dst (N := 2) rfl ?_); refine box_event ?hg (N := 2) ?hd (cs := #[.int .i64 a0_0, .int .i64 a0_1, .int .i64 a0_2, .slice A0_3 l0_3.length c0_3]) (t := 24) ?hr ?_; (case hd => rfl); (case hg => rfl); (case hr => first | (go_simp; done) | (go_simp; rfl)); intro gb114 hg w30 hbox hb; have n0_ := Aside0.mk (below_step (by repeat (first | (with_reducible first | exact HB.out | apply below_alloc | apply pw_below_drewN | apply below_drew1) | exact HB.out)) hb); have n1_ := Aside0.mk (hbox); have n2_ := Aside0.mk ((by rw [hg]; exact (below_size (by repeat (first | (with_reducible first | exact HB.out | apply below_alloc | apply pw_below_drewN | apply below_drew1) | exact HB.out))) : w.heap.size ≤ gb114)); have n3_ := Aside0.mk ((by rw [hg]; exact (below_size (by repeat (first | (with_reducible first | exact HB.out | apply below_alloc | apply pw_below_drewN | apply below_drew1) | exact HB.out))) : w.heap.size ≤ gb114)); clear HB; have HB := n0_; have BK114 := n1_; have GW114 := n2_; have GE114 := n3_; clear n0_ n1_ n2_ n3_; clear hb hbox hg) | ((with_reducible refine gate_dst (N := 3) rfl ?_); refine box_event ?hg (N := 3) ?hd (cs := #[.int .i64 a1_0, .int .i64 a1_1, .int .i64 a1_2, .slice A1_3 l1_3.length c1_3]) (t := 24) ?hr ?_; (case hd => rfl); (case hg => rfl); (case hr => first | (go_simp; done) | (go_simp; rfl)); intro gb115 hg w31 hbox hb; have n0_ := Aside0.mk (blk_below (g := gb114) (o := .cells #[.int .i64 a0_0, .int .i64 a0_1, .int .i64 a0_2, .slice A0_3 l0_3.length c0_3] 24 (0, 0)) (by (with_reducible repeat (first | refine blk_drewN ?_ _ | refine blk_drew ?_ | refine blk_alloc ?_ _)); exact BK114.out) hb); have n1_ := Aside0.mk (below_step (by repeat (first | (with_reducible first | exact HB.out | apply below_alloc | apply pw_below_drewN | apply below_drew1 | refine below_set ?_ GE114.out) | exact HB.out)) hb); have n2_ := Aside0.mk (hbox); have n3_ := Aside0.mk ((by rw [hg]; exact (below_size (by repeat (first | (with_reducible first | exact HB.out | apply below_alloc | apply pw_below_drewN | apply below_drew1 | refine below_set ?_ GE114.out) | exact HB.out))) : w.heap.size ≤ gb115)); have n4_ := Aside0.mk ((by rw [hg]; exact (below_size (by repeat (first | (with_reducible first | exact HB.out | apply below_alloc | apply pw_below_drewN | apply below_drew1 | refine below_set ?_ GE114.out) | exact HB.out))) : w.heap.size ≤ gb115)); have n5_ := Aside0.mk ((by rw [hg]; exact Nat.ne_of_lt (blk_lt (g := gb114) (o := .cells #[.int .i64 a0_0, .int .i64 a0_1, .int .i64 a0_2, .slice A0_3 l0_3.length c0_3] 24 (0, 0)) (by (with_reducible repeat (first | refine blk_drewN ?_ _ | refine blk_drew ?_ | refine blk_alloc ?_ _)); exact BK114.out)) : gb114 ≠ gb115)); have n6_ := Aside0.mk ((by rw [hg]; exact Nat.ne_of_gt (blk_lt (g := gb114) (o := .cells #[.int .i64 a0_0, .int .i64 a0_1, .int .i64 a0_2, .slice A0_3 l0_3.length c0_3] 24 (0, 0)) (by (with_reducible repeat (first | refine blk_drewN ?_ _ | refine blk_drew ?_ | refine blk_alloc ?_ _)); exact BK114.out)) : gb115 ≠ gb114)); clear BK114; clear HB; have BK114 := n0_; have HB := n1_; have BK115 := n2_; have GW115 := n3_; have GE115 := n4_; have NB114_115 := n5_; have NB115_114 := n6_; clear n0_ n1_ n2_ n3_ n4_ n5_ n6_; clear hb hbox hg; have hnb32 := NB114_115.out; have hnc32 := NB115_114.out; have hcz33_0 : w31.cell? ⟨gb114, 0, none⟩ = some (.int .i64 a0_0) := (blk_cell BK114.out 0).trans rfl; have hcz33_1 : w31.cell? ⟨gb114, 1, none⟩ = some (.int .i64 a0_1) := (blk_cell BK114.out 1).trans rfl; have hcz33_2 : w31.cell? ⟨gb114, 2, none⟩ = some (.int .i64 a0_2) := (blk_cell BK114.out 2).trans rfl; have hcz33_3 : w31.cell? ⟨gb114, 3, none⟩ = some (.slice A0_3 l0_3.length c0_3) := (blk_cell BK114.out 3).trans rfl; have hfz33_0 := blk_frozen BK114.out 0; have hfz33_1 := blk_frozen BK114.out 1; have hfz33_2 := blk_frozen BK114.out 2; have hfz33_3 := blk_frozen BK114.out 3; have hcz34_0 : w31.cell? ⟨gb115, 0, none⟩ = some (.int .i64 a1_0) := (blk_cell BK115.out 0).trans rfl; have hcz34_1 : w31.cell? ⟨gb115, 1, none⟩ = some (.int .i64 a1_1) := (blk_cell BK115.out 1).trans rfl; have hcz34_2 : w31.cell? ⟨gb115, 2, none⟩ = some (.int .i64 a1_2) := (blk_cell BK115.out 2).trans rfl; have hcz34_3 : w31.cell? ⟨gb115, 3, none⟩ = some (.slice A1_3 l1_3.length c1_3) := (blk_cell BK115.out 3).trans rfl; have hfz34_0 := blk_frozen BK115.out 0; have hfz34_1 := blk_frozen BK115.out 1; have hfz34_2 := blk_frozen BK115.out 2; have hfz34_3 := blk_frozen BK115.out 3))
    go_ret
    exact ⟨by first | rfl | (simp [errW_none, errW_some] <;> rfl) | (simp [*, errW_none, errW_some] <;> rfl), by repeat (first | (with_reducible first | exact HB.out | apply below_alloc | apply pw_below_drewN | apply below_drew1 | refine below_set ?_ GE114.out | refine below_set ?_ GE115.out) | exact HB.out)⟩
end Go.Proofs.Ytnoejflancomaaa.P
end

section
namespace Go.Proofs.Ytnoejflancomaaa.P
open Go.RowKit Go.Proofs.YtnoejflancomaaaW.PrintWords Go.Proofs.YtnoejflancomaaaW.PrintLast Go.Proofs.YtnoejflancomaaaW.PrintMore
attribute [local go_sem] max2_int min2_int max_two min_two max_three min_three max_four min_four
set_option linter.unusedVariables false
set_option linter.unusedSimpArgs false
def impl_areSquares.f (sq fc ov : Int) (l : List S76) (xs : List Int) : Option Bool := some (bOK sq fc ov l && xs.all (sqr sq l))
theorem rdI {w wr : World} {A : Option Addr} {n k : Nat} {l : List Int} (h : Kd.C (Kd.int .i64) w A n l) (hb : Below w.heap.size w wr) (hk : k < l.length) :
    ∃ ad, A = some ad ∧ wr.cell? (ad.add k) = some (.int .i64 l[k]) := by
  obtain ⟨ad, e, h0⟩ := Kd.at_int h k (by omega) (by have := h.1; omega)
  have hg : rd l k = l[k] := by simp [rd, hk]
  rw [hg, Int.toNat_natCast] at h0
  exact ⟨ad, e, (hb.cell (World.block_lt_of_cell? w _ h0)).trans h0⟩
set_option maxHeartbeats 800000 in
theorem areSquares_lit (sq fc ov : Int) (A : Option Addr) (c : Nat) (l : List S76) (n : Int) (g : Nat) (w : World) (hr : Kd.C k76 w A l.length l) (hc : l.length ≤ c) (hg : w.heap[g]? = some (.cells #[.int .i64 sq, .int .i64 fc, .int .i64 ov, .slice A l.length c] 24 (0, 0))) :
    Calls Try.prog 133 #[.int .i64 n, .pointer (some ⟨g, 0, none⟩)] w fun e w' => e = .returned (.bool (!sqr sq l n)) ∧ Below w.heap.size w w' := by
  have z0 : w.cell? ⟨g, 0, none⟩ = some (.int .i64 sq) := (blk_cell hg 0).trans rfl
  have z1 : w.cell? ⟨g, 1, none⟩ = some (.int .i64 fc) := (blk_cell hg 1).trans rfl
  have z2 : w.cell? ⟨g, 2, none⟩ = some (.int .i64 ov) := (blk_cell hg 2).trans rfl
  have z3 : w.cell? ⟨g, 3, none⟩ = some (.slice A l.length c) := (blk_cell hg 3).trans rfl
  have HR := Aside0.mk hr
  clear hr hg
  go_enter Try.func133, Try.ntmps133
  go_wp2_with (go_at_call 90; refine (impl_Board_isSquare.calls _ _ _ _ _ _ _ _ _ HR.out hc rfl).mono ?_; rintro e w1 ⟨rfl, hb⟩)
  go_ret
  exact ⟨rfl, hb⟩
set_option maxHeartbeats 800000 in
theorem areSquares_idx (sq fc ov : Int) (A : Option Addr) (c : Nat) (l : List S76) (B : Option Addr) (d : Nat) (xs : List Int) (g : Nat) (w : World) (hr : Kd.C k76 w A l.length l) (hc : l.length ≤ c) (hs : Kd.C (Kd.int .i64) w B xs.length xs) (hg : w.heap[g]? = some (.cells #[.int .i64 sq, .int .i64 fc, .int .i64 ov, .slice A l.length c] 24 (0, 0))) :
    Calls Try.prog 161 #[.slice B xs.length d, .func (.func 133) #[] #[.pointer (some ⟨g, 0, none⟩)]] w fun e w' => (∃ i : Int, e = .returned (.int .i64 i) ∧ decide (0 ≤ i) = !xs.all (sqr sq l)) ∧ Below w.heap.size w w' := by
  have HR := Aside0.mk hr
  have HS := Aside0.mk hs
  have HG := Aside0.mk hg
  have hl : xs.length ≤ 9223372036854775807 := hs.2.1
  clear hr hs hg
  go_enter Try.func161, Try.ntmps161
  go_wp2
  go_loopw [8] (fun v wr => ∃ k : Nat, v = .int .i64 k ∧ k ≤ xs.length ∧ Aside0 (xs.all (sqr sq l) = (xs.drop k).all (sqr sq l)) ∧ Aside0 (Below w.heap.size w wr)) (fun v _ => xs.length - (intOf v).toNat)
  case atStart => exact ⟨0, rfl, by omega, ⟨rfl⟩, ⟨Below.refl _ _⟩⟩
  case round =>
    obtain ⟨k, rfl, hk, HA, HB⟩ := hrel
    by_cases hlt : k < xs.length
    · obtain ⟨ad, rfl, h0⟩ := rdI HS.out HB.out hlt
      have HA := HA.out
      rw [List.drop_eq_getElem_cons hlt, List.all_cons] at HA
      have HA := Aside0.mk HA
      rcases Bool.eq_false_or_eq_true (sqr sq l xs[k]) with e | e
      · go_wp2_with (go_at_call 133; refine (areSquares_lit sq fc ov A c l _ g _ (Kd.C_below HR.out HB.out) hc (blk_below HG.out HB.out)).mono ?_; rintro e w1 ⟨rfl, hb⟩)
        refine ⟨⟨k + 1, by go_num, by omega, ⟨?_⟩, ⟨HB.out.trans (hb.mono HB.out.size)⟩⟩, by simp [intOf]; omega⟩
        rw [HA.out, e]
        simp
      · go_wp2_with (go_at_call 133; refine (areSquares_lit sq fc ov A c l _ g _ (Kd.C_below HR.out HB.out) hc (blk_below HG.out HB.out)).mono ?_; rintro e w1 ⟨rfl, hb⟩)
        go_ret
        refine ⟨⟨k, rfl, ?_⟩, HB.out.trans (hb.mono HB.out.size)⟩
        rw [HA.out, e]
        simp
    · go_wp2
      go_ret
      refine ⟨⟨-1, rfl, ?_⟩, HB.out⟩
      rw [HA.out, List.drop_eq_nil_of_le (by omega)]
      rfl
set_option maxHeartbeats 800000 in
theorem areSquares_has (sq fc ov : Int) (A : Option Addr) (c : Nat) (l : List S76) (B : Option Addr) (d : Nat) (xs : List Int) (g : Nat) (w : World) (hr : Kd.C k76 w A l.length l) (hc : l.length ≤ c) (hs : Kd.C (Kd.int .i64) w B xs.length xs) (hg : w.heap[g]? = some (.cells #[.int .i64 sq, .int .i64 fc, .int .i64 ov, .slice A l.length c] 24 (0, 0))) :
    Calls Try.prog 132 #[.slice B xs.length d, .func (.func 133) #[] #[.pointer (some ⟨g, 0, none⟩)]] w fun e w' => e = .returned (.bool (!xs.all (sqr sq l))) ∧ Below w.heap.size w w' := by
  go_enter Try.func132, Try.ntmps132
  go_wp2_with (go_at_call 161; refine (areSquares_idx sq fc ov A c l B d xs g _ hr hc hs hg).mono ?_; rintro e w1 ⟨⟨i, rfl, hi⟩, hb⟩)
  go_ret
  exact ⟨by rw [← hi]; rfl, hb⟩
set_option maxHeartbeats 800000 in
theorem impl_areSquares.calls (sq fc ov : Int) (A : Option Addr) (c : Nat) (l : List S76) (B : Option Addr) (d : Nat) (xs : List Int) (r : Bool) (w : World) (hr : Kd.C k76 w A l.length l) (hc : l.length ≤ c) (hs : Kd.C (Kd.int .i64) w B xs.length xs) (hd : xs.length ≤ d) (h : impl_areSquares.f sq fc ov l xs = some r) :
    Calls Try.prog 71 #[.agg #[.int .i64 sq, .int .i64 fc, .int .i64 ov, .slice A l.length c], .slice B xs.length d] w fun e w' => e = .returned (.bool r) ∧ Below w.heap.size w w' := by
  obtain rfl : (bOK sq fc ov l && xs.all (sqr sq l)) = r := by simpa [impl_areSquares.f] using h
  have HR := Aside0.mk hr
  have HS := Aside0.mk hs
  clear h hr hs
  go_enter Try.func71, Try.ntmps71
  have HB := Aside0.mk (below_alloc (Below.refl w.heap.size w) (.cells #[.int .i64 sq, .int .i64 fc, .int .i64 ov, .slice A l.length c] 24))
  by_cases c1 : bOK sq fc ov l = true
  · go_wp2_with (first | (go_at_call 131; refine (impl_IsBoard.calls _ _ _ _ _ _ _ _ (Kd.C_below HR.out HB.out) hc rfl).mono ?_; rintro e w1 ⟨rfl, hb⟩; have HB1 := Aside0.mk (HB.out.trans (hb.mono HB.out.size)); have HG1 := Aside0.mk (blk_below (blk_new w _) hb); clear hb) | (go_at_call 132; refine (areSquares_has sq fc ov A c l B d xs w.heap.size _ (Kd.C_below HR.out HB1.out) hc (Kd.C_below HS.out HB1.out) HG1.out).mono ?_; rintro e w2 ⟨rfl, hb⟩))
    go_ret
    exact ⟨by simp [c1], HB1.out.trans (hb.mono HB1.out.size)⟩
  · have c1 : bOK sq fc ov l = false := by simpa using c1
    go_wp2_with (go_at_call 131; refine (impl_IsBoard.calls _ _ _ _ _ _ _ _ (Kd.C_below HR.out HB.out) hc rfl).mono ?_; rintro e w1 ⟨rfl, hb⟩)
    go_ret
    exact ⟨by simp [c1], HB.out.trans (hb.mono HB.out.size)⟩
end Go.Proofs.Ytnoejflancomaaa.P
end

section
namespace Go.Proofs.Ytnoejflancomaaa.P
set_option linter.unusedVariables false
set_option linter.unusedSimpArgs false
open Go.RowKit Go.Proofs.YtnoejflancomaaaW.PrintWords Go.Proofs.YtnoejflancomaaaW.PrintLast
theorem w64 {x : Int} (h : -9223372036854775808 ≤ x) (h2 : x ≤ 9223372036854775807) : wrap64 x = x := by unfold wrap64; omega
theorem wf64 {x : Int} (h : (Lit.int .i64 x).wf = true) : -9223372036854775808 ≤ x ∧ x ≤ 9223372036854775807 := Go.bounds_i64 h
def cvJ (x : S151) : S76 := ⟨x.f0, x.f1⟩
theorem toJumpS_l (x0 : List S151) (hl : x0.length ≤ 17592186044416) (d : Nat) : ∀ (k i : Nat) (x3 : List S76), i + d = x0.length → x3.length = x0.length → d < k →
    laws_toJumpS.l0 k x0 x3 i = some (x3.take i ++ (x0.drop i).map cvJ) := by
  induction d with
  | zero =>
    intro k i x3 hi h3 hk
    obtain ⟨k, rfl⟩ : ∃ m, k = m + 1 := ⟨k - 1, by omega⟩
    simp only [laws_toJumpS.l0]
    rw [if_neg (by omega), List.drop_eq_nil_of_le (by omega), List.take_of_length_le (by omega)]
    simp
  | succ d ih =>
    intro k i x3 hi h3 hk
    obtain ⟨k, rfl⟩ : ∃ m, k = m + 1 := ⟨k - 1, by omega⟩
    simp only [laws_toJumpS.l0]
    rw [if_pos (by omega), if_pos (by omega)]
    simp only [laws_toJump.f, Option.bind_some]
    rw [if_pos (by omega), w64 (by omega) (by omega), show ((i : Int) + 1) = ((i + 1 : Nat) : Int) by omega, ih k (i + 1) _ (by omega) (by simp [h3]) (by omega)]
    have hg : rd_T151 x0 i = x0[i] := by simp [rd_T151, show i < x0.length by omega]
    rw [hg, Int.toNat_natCast, List.drop_eq_getElem_cons (show i < x0.length by omega), List.map_cons]
    congr 1
    rw [List.take_succ_eq_append_getElem (by simp; omega), List.getElem_set_self, List.take_set_of_le (Nat.le_refl _)]
    simp [cvJ]
theorem toJumpS_eq {l : List S151} (hl : l.length ≤ 17592186044416) {k : Nat} (hk : l.length < k) : laws_toJumpS.f k l = some (l.map cvJ) := by
  unfold laws_toJumpS.f
  rw [if_pos (by omega), if_pos (by omega)]
  have := toJumpS_l l hl l.length k 0 (List.replicate l.length z76) (by omega) (by simp) hk
  simpa using this
theorem toBoard_eq {l : List S151} (hl : l.length ≤ 17592186044416) {k : Nat} (hk : l.length < k) (a b c : Int) : laws_toBoard.f k a b c l = some (a, b, c, l.map cvJ) := by
  unfold laws_toBoard.f
  rw [toJumpS_eq hl hk]
  rfl
theorem szBoard_eq (a b c : Int) (l : List S151) (hl : l.length ≤ maxLen) : (laws_szBoard.f a b c l 1048576 = some (-1)) ∨ (l.length ≤ 1048576 ∧ laws_szBoard.f a b c l 1048576 = some (1048576 - (l.length : Int))) := by
  have h : wrap64 (1048576 - (l.length : Int)) = 1048576 - (l.length : Int) := w64 (by unfold maxLen at hl; omega) (by omega)
  unfold laws_szBoard.f laws_szJumpS.f
  rw [h]
  by_cases c : (1048576 - (l.length : Int)) < 0
  · left
    rw [if_pos c]
    rfl
  · right
    rw [if_neg c]
    exact ⟨by omega, by rw [Option.bind_some, if_neg c]⟩
theorem eqJumpS_l (x : List S76) (hl : x.length ≤ 17592186044416) (d : Nat) : ∀ (k i : Nat), i + d = x.length → d < k → laws_eqJumpS.l0 k x x i = some true := by
  induction d with
  | zero =>
    intro k i hi hk
    obtain ⟨k, rfl⟩ : ∃ m, k = m + 1 := ⟨k - 1, by omega⟩
    simp only [laws_eqJumpS.l0]
    rw [if_neg (by omega)]
  | succ d ih =>
    intro k i hi hk
    obtain ⟨k, rfl⟩ : ∃ m, k = m + 1 := ⟨k - 1, by omega⟩
    simp only [laws_eqJumpS.l0]
    rw [if_pos (by omega), if_pos (by omega), if_pos (by omega)]
    simp only [laws_eqJump.f, if_true, Option.bind_some]
    rw [w64 (by omega) (by omega), show ((i : Int) + 1) = ((i + 1 : Nat) : Int) by omega]
    exact ih k (i + 1) (by omega) (by omega)
theorem eqBoard_refl {l : List S76} (hl : l.length ≤ 17592186044416) {k : Nat} (hk : l.length < k) (a b c : Int) : laws_eqBoard.f k a b c l a b c l = some true := by
  unfold laws_eqBoard.f laws_eqJumpS.f
  rw [if_pos rfl, if_pos rfl, if_pos rfl, if_pos rfl]
  have := eqJumpS_l l hl l.length k 0 (by omega) hk
  rw [show ((0 : Int)) = ((0 : Nat) : Int) from rfl, this]
  rfl
theorem bOK_J {sq fc ov : Int} {l : List S76} (h : bOK sq fc ov l = true) : okJ sq l 0 l = true ∧ 1 ≤ sq ∧ sq ≤ 100 ∧ 1 ≤ fc ∧ fc ≤ 8 ∧ 0 ≤ ov ∧ ov ≤ 2 ∧ l.length ≤ 20 := by
  simp only [bOK, Bool.and_eq_true, inn_iff, decide_eq_true_eq] at h
  obtain ⟨⟨⟨⟨⟨h1, h2⟩, h3, h4⟩, h5, h6⟩, h7⟩, h8⟩ := h
  exact ⟨h8, h1, h2, h3, h4, h5, h6, h7⟩
theorem jmp_ne {sq fc ov : Int} {l : List S76} (h : bOK sq fc ov l = true) {n : Int} (hj : (jmp l n).2 = true) : (jmp l n).1 ≠ n := by
  obtain ⟨j, hj1, h1, h2⟩ := jmp_mem hj
  have h3 := okS_ne sq l 0 (okJ_iff sq l l 0 (fun _ h => h) (bOK_J h).1).1 j hj1
  intro e
  exact h3 (by rw [h1, h2, e])
theorem sqs_eq {sq fc ov : Int} {l : List S76} (h : bOK sq fc ov l = true) (n : Int) : sqs sq l n = sqr sq l n := by
  unfold sqs sqr
  congr 1
  rcases Bool.eq_false_or_eq_true (jmp l n).2 with e | e
  · rw [e]; simpa using jmp_ne h e
  · rw [e]; simpa using jmp_no e
theorem asked_eq (sq fc ov : Int) (l : List S76) (n : Int) : (bOK sq fc ov l && sqs sq l n) = (bOK sq fc ov l && sqr sq l n) := by
  rcases Bool.eq_false_or_eq_true (bOK sq fc ov l) with e | e
  · rw [sqs_eq e]
  · rw [e]; rfl
end Go.Proofs.Ytnoejflancomaaa.P
end

section
namespace Go.Proofs.Ytnoejflancomaaa.P
set_option linter.unusedVariables false
set_option linter.unusedSimpArgs false
open Go.RowKit Go.Proofs.YtnoejflancomaaaW.PrintWords Go.Proofs.YtnoejflancomaaaW.PrintLast
def thr (sq ov : Int) (l : List S76) (s f : Int) : Int :=
  if s = sq then s else if s + f ≤ sq then (jmp l (s + f)).1 else if ov = 1 then sq else if ov = 2 then (if 0 ≤ 2 * sq - (s + f) then (jmp l (2 * sq - (s + f))).1 else s) else s
theorem okJ_mem {sq : Int} {all : List S76} : ∀ {r : List S76} {p : Int}, okJ sq all p r = true → ∀ j ∈ r, (1 ≤ j.f0 ∧ j.f0 ≤ sq - 1) ∧ (0 ≤ j.f1 ∧ j.f1 ≤ sq)
  | j :: r, p, h, i, hi => by
    simp only [okJ, Bool.and_eq_true, inn_iff] at h
    rcases List.mem_cons.1 hi with rfl | hi
    · exact ⟨h.1.1.1.1, h.1.1.1.2⟩
    · exact okJ_mem h.2 i hi
theorem jmp_in {sq fc ov : Int} {l : List S76} (h : bOK sq fc ov l = true) {n : Int} (h0 : 0 ≤ n) (h1 : n ≤ sq) : 0 ≤ (jmp l n).1 ∧ (jmp l n).1 ≤ sq := by
  rcases Bool.eq_false_or_eq_true (jmp l n).2 with e | e
  · obtain ⟨j, hj, _, h3⟩ := jmp_mem e
    have := (okJ_mem (bOK_J h).1 j hj).2
    rw [← h3]; exact this
  · rw [jmp_no e]; exact ⟨h0, h1⟩
theorem jmp_end {sq fc ov : Int} {l : List S76} (h : bOK sq fc ov l = true) {n : Int} (h1 : sq ≤ n) : (jmp l n).1 = n := by
  rcases Bool.eq_false_or_eq_true (jmp l n).2 with e | e
  · obtain ⟨j, hj, h3, _⟩ := jmp_mem e
    have := (okJ_mem (bOK_J h).1 j hj).1
    omega
  · exact jmp_no e
theorem thr_in {sq fc ov : Int} {l : List S76} (h : bOK sq fc ov l = true) {s f : Int} (h0 : 0 ≤ s) (h1 : s ≤ sq) (hf : 1 ≤ f) : 0 ≤ thr sq ov l s f ∧ thr sq ov l s f ≤ sq := by
  have hb := bOK_J h
  unfold thr
  split
  · omega
  · split
    · exact jmp_in h (by omega) (by omega)
    · split
      · omega
      · split
        · split
          · exact jmp_in h (by omega) (by omega)
          · omega
        · omega
theorem spec_thr {sq fc ov : Int} {l : List S76} (h : bOK sq fc ov l = true) {s f : Int} (h0 : 0 ≤ s) (h1 : s ≤ sq) (hf : 1 ≤ f) (hf2 : f ≤ 8) : spec_sqThrow.f sq fc ov l s f = some (thr sq ov l s f) := by
  have hb := bOK_J h
  unfold spec_sqThrow.f thr spec_sqJump.f
  rw [w64 (x := s + f) (by omega) (by omega), w64 (x := 2 * sq) (by omega) (by omega), w64 (x := 2 * sq - (s + f)) (by omega) (by omega)]
  by_cases c1 : s = sq
  · rw [if_pos c1, if_pos c1]
  · rw [if_neg c1, if_neg c1]
    by_cases c2 : s + f ≤ sq
    · rw [if_neg (by omega), if_pos c2]; rfl
    · rw [if_pos (by omega), if_neg c2]
      by_cases c3 : ov = 1
      · rw [if_neg (by omega), if_pos c3, if_pos c3]
      · by_cases c4 : ov = 2
        · rw [if_neg (by omega), if_neg c3, if_neg c3, if_pos c4]
          by_cases c5 : 0 ≤ 2 * sq - (s + f)
          · rw [if_neg (by omega), if_pos c5]; rfl
          · rw [if_pos (by omega), if_neg c5]
        · rw [if_pos (by omega), if_neg c3, if_neg c4]
theorem impl_thr {sq fc ov : Int} {l : List S76} (h : bOK sq fc ov l = true) {s f : Int} (h0 : 0 ≤ s) (h1 : s ≤ sq) (hf : 1 ≤ f) (hf2 : f ≤ 8) : impl_Board_throw.f sq fc ov l s f = some (thr sq ov l s f) := by
  have hb := bOK_J h
  unfold impl_Board_throw.f impl_Board_landing.f thr impl_Board_begins.f
  rw [w64 (x := s + f) (by omega) (by omega), w64 (x := 2 * sq) (by omega) (by omega), w64 (x := 2 * sq - (s + f)) (by omega) (by omega)]
  by_cases c1 : s = sq
  · rw [if_pos c1, if_pos c1]; rfl
  · rw [if_neg c1, if_neg c1]
    by_cases c2 : s + f ≤ sq
    · rw [if_pos c2, if_pos c2]; rfl
    · rw [if_neg c2, if_neg c2]
      by_cases c3 : ov = 1
      · rw [if_pos c3, if_pos c3]
        simp [jmp_end h (Int.le_refl sq)]
      · rw [if_neg c3, if_neg c3]
        by_cases c4 : ov = 2
        · rw [if_pos c4, if_pos c4]
          by_cases c5 : 0 ≤ 2 * sq - (s + f)
          · rw [if_pos c5, if_pos (by omega)]; rfl
          · rw [if_neg c5, if_neg (by omega)]; rfl
        · rw [if_neg c4, if_neg c4]; rfl
def landsN (sq ov : Int) (l : List S76) (s : Int) : Nat → Int → List Int
  | 0, _ => []
  | n + 1, f => thr sq ov l s f :: landsN sq ov l s n (f + 1)
def lands (sq fc ov : Int) (l : List S76) (s : Int) : List Int := landsN sq ov l s fc.toNat 1
theorem landsN_len (sq ov : Int) (l : List S76) (s : Int) : ∀ (n : Nat) (f : Int), (landsN sq ov l s n f).length = n
  | 0, _ => rfl
  | n + 1, f => by rw [landsN, List.length_cons, landsN_len sq ov l s n]
theorem landsN_in {sq fc ov : Int} {l : List S76} (h : bOK sq fc ov l = true) {s : Int} (h0 : 0 ≤ s) (h1 : s ≤ sq) : ∀ (n : Nat) (f : Int), 1 ≤ f → ∀ t ∈ landsN sq ov l s n f, 0 ≤ t ∧ t ≤ sq
  | 0, _, _, t, ht => by cases ht
  | n + 1, f, hf, t, ht => by
    rcases List.mem_cons.1 ht with rfl | ht
    · exact thr_in h h0 h1 hf
    · exact landsN_in h h0 h1 n (f + 1) (by omega) t ht
theorem lands_in {sq fc ov : Int} {l : List S76} (h : bOK sq fc ov l = true) {s : Int} (h0 : 0 ≤ s) (h1 : s ≤ sq) : ∀ t ∈ lands sq fc ov l s, 0 ≤ t ∧ t ≤ sq := landsN_in h h0 h1 _ 1 (by omega)
theorem lands_len {sq fc ov : Int} {l : List S76} (h : bOK sq fc ov l = true) (s : Int) : ((lands sq fc ov l s).length : Int) = fc := by
  have hb := bOK_J h
  rw [lands, landsN_len]; omega
end Go.Proofs.Ytnoejflancomaaa.P
end

section
namespace Go.Proofs.Ytnoejflancomaaa.P
set_option linter.unusedVariables false
set_option linter.unusedSimpArgs false
open Go Go.RowKit Go.Proofs.YtnoejflancomaaaW.PrintWords Go.Proofs.YtnoejflancomaaaW.PrintLast Go.Proofs.YtnoejflancomaaaW.PrintMore
attribute [local go_sem] max2_int min2_int max_two min_two max_three min_three max_four min_four
section
variable (sq fc ov : Int) (l : List S76) (mk : Int × Int → Int → Int)
def sumF (β : Int × Int → Int) (u : Int × Int) : Nat → Int → Int
  | 0, _ => 0
  | n + 1, x => β (thr sq ov l u.1 x, mk u x) + sumF β u n (x + 1)
def opB (β : Int × Int → Int) (u : Int × Int) : Int := if u.1 = sq then 0 else sumF sq ov l mk β u fc.toNat 1
def opI : Nat → (Int × Int → Int) → Int × Int → Int
  | 0, β => β
  | i + 1, β => opI i (opB sq fc ov l mk β)
end
section
variable {sq fc ov : Int} {l : List S76} {mk : Int × Int → Int → Int}
theorem sumF_one (u : Int × Int) : ∀ (n : Nat) (x : Int), sumF sq ov l mk (fun _ => 1) u n x = n
  | 0, _ => rfl
  | n + 1, x => by rw [sumF, sumF_one u n]; omega
theorem opI_mono : ∀ (i : Nat) {β γ : Int × Int → Int}, (∀ u, β u ≤ γ u) → ∀ u, opI sq fc ov l mk i β u ≤ opI sq fc ov l mk i γ u
  | 0, _, _, h, u => h u
  | i + 1, β, γ, h, u => opI_mono i (fun v => by
      unfold opB
      split
      · exact Int.le_refl _
      · have : ∀ (n : Nat) (x : Int), sumF sq ov l mk β v n x ≤ sumF sq ov l mk γ v n x := by
          intro n
          induction n with
          | zero => intro x; exact Int.le_refl _
          | succ n ih => intro x; rw [sumF, sumF]; have := h (thr sq ov l v.1 x, mk v x); have := ih (x + 1); omega
        exact this _ _) u
theorem opI_const (hfc : 0 ≤ fc) : ∀ (i : Nat) (c : Int), 0 ≤ c → ∀ u, opI sq fc ov l mk i (fun _ => c) u ≤ fc ^ i * c
  | 0, c, _, u => by simp [opI]
  | i + 1, c, hc, u => by
    have h1 : ∀ v, opB sq fc ov l mk (fun _ => c) v ≤ fc * c := fun v => by
      unfold opB
      have : ∀ (n : Nat) (x : Int), sumF sq ov l mk (fun _ => c) v n x = n * c := by
        intro n
        induction n with
        | zero => intro x; simp [sumF]
        | succ n ih => intro x; rw [sumF, ih, Int.natCast_add, Int.add_mul]; simp; omega
      split
      · exact Int.mul_nonneg hfc hc
      · rw [this, show ((fc.toNat : Nat) : Int) = fc by omega]
        exact Int.le_refl _
    have h2 := opI_mono (sq := sq) (fc := fc) (ov := ov) (l := l) (mk := mk) i h1 u
    have h3 := opI_const hfc i (fc * c) (Int.mul_nonneg hfc hc) u
    rw [Int.pow_succ, Int.mul_assoc]
    exact Int.le_trans h2 h3
end
theorem p16 {fc : Int} (h1 : 1 ≤ fc) (h8 : fc ≤ 8) {j : Nat} (hj : j ≤ 16) : fc ^ j ≤ 281474976710656 := by
  obtain ⟨n, rfl⟩ : ∃ n : Nat, fc = n := ⟨fc.toNat, by omega⟩
  have ha : n ^ j ≤ 8 ^ j := Nat.pow_le_pow_left (by omega) j
  have hb : 8 ^ j ≤ 8 ^ 16 := Nat.pow_le_pow_right (by omega) hj
  have : ((n : Int)) ^ j = ((n ^ j : Nat) : Int) := by simp
  rw [this]; omega
theorem opB_nn (sq fc ov : Int) (l : List S76) (mk : Int × Int → Int → Int) (u : Int × Int) : 0 ≤ opB sq fc ov l mk (fun _ => 1) u := by
  unfold opB
  split
  · exact Int.le_refl _
  · rw [sumF_one]; omega
theorem upd01 (fr u : Int × Int) : 0 ≤ upd (fun _ => (0 : Int)) fr 1 u := by
  unfold upd
  split
  · decide
  · exact Int.le_refl _
structure GK (sq fc ov : Int) (A : Option Addr) (c : Nat) (l : List S76) (fr : Int × Int) (w W : World) : Prop where
  kb : W.heap[w.heap.size]? = some (.cells #[.int .i64 sq, .int .i64 fc, .int .i64 ov, .slice A l.length c] 24 (0, 0))
  kf : W.heap[w.heap.size + 1]? = some (.cells #[.int .i64 fr.1, .int .i64 fr.2] 154 (0, 0))
  bw : Below w.heap.size w W
section
variable {sq fc ov : Int} {A : Option Addr} {c : Nat} {l : List S76} {fr : Int × Int} {w W W' : World}
theorem GK.below (h : GK sq fc ov A c l fr w W) (hb : Below W.heap.size W W') : GK sq fc ov A c l fr w W' := ⟨blk_below h.kb hb, blk_below h.kf hb, bT h.bw hb⟩
theorem GK.drew (h : GK sq fc ov A c l fr w W) : GK sq fc ov A c l fr w W.drew := h.below (below_drew (Below.refl _ _))
theorem GK.alloc (h : GK sq fc ov A c l fr w W) (o : Obj) : GK sq fc ov A c l fr w (W.alloc o) := h.below (below_alloc (Below.refl _ _) o)
theorem GK.grown (h : GK sq fc ov A c l fr w W) {b : Nat} (hg : W.grownBy W' (some b)) (hb : w.heap.size + 2 ≤ b) : GK sq fc ov A c l fr w W' :=
  ⟨blk_grown h.kb hg (by simp; omega), blk_grown h.kf hg (by simp; omega), h.bw.trans ⟨hg.os, hg.tape, hg.output, hg.size, fun k hk => hg.block k (by have := h.bw.size; omega) (by simp; omega)⟩⟩
end
theorem spots_mark {sq : Int} {m : Nat} {u : Int × Int} (h0 : 0 ≤ sq) (h : u ∈ spots sq m) : u.2 ∈ (List.range (m + 1)).map Int.ofNat := by
  have := (mem_spots h0).1 h
  exact List.mem_map.2 ⟨u.2.toNat, List.mem_range.2 (by omega), by simp; omega⟩
theorem marks_len {m : Nat} (h : m ≤ 17) : ((List.range (m + 1)).map Int.ofNat).length ≤ 18 := by simp; omega
theorem games_bd (sq : Int) (m : Nat) (u : Int × Int) (left : Int × Int → Bool) (g : Int × Int → Int) (h : Int → Int) (hu : u ∈ spots sq m) (hp : ∀ v ∈ spots sq m, 0 ≤ g v)
    (hs : ∀ q, h q = wS (spots sq m) (fun v => if left v = true then 0 else g v * (if v.1 = sq ∧ v.2 = q then 1 else 0)))
    (hst : ∀ F : Int × Int → Int, wS (spots sq m) (fun v => if (left v && !decide (v = u)) = true then 0 else F v) = wS (spots sq m) (fun v => if left v = true then 0 else F v) + F u)
    (hb : wS (spots sq m) (fun v => g v * 1) ≤ 281474976710656) (he : u.1 = sq) : 0 ≤ h u.2 ∧ h u.2 + g u ≤ 281474976710656 := by
  have e1 := hst (fun v => g v * (if v.1 = sq ∧ v.2 = u.2 then 1 else 0))
  have e2 : g u * (if u.1 = sq ∧ u.2 = u.2 then 1 else 0) = g u := by simp [he]
  have e1 : _ = _ + g u * (if u.1 = sq ∧ u.2 = u.2 then 1 else 0) := e1
  rw [e2, ← hs] at e1
  have e3 := wS_le (U := spots sq m) (f := fun v => if (left v && !decide (v = u)) = true then 0 else g v * (if v.1 = sq ∧ v.2 = u.2 then 1 else 0)) (g := fun v => g v * 1) (fun v hv => by
    have := hp v hv
    split
    · omega
    · split <;> simp <;> omega)
  refine ⟨?_, by omega⟩
  rw [hs]
  exact wS_nn (fun v hv => by
    have := hp v hv
    split
    · exact Int.le_refl _
    · split <;> simp <;> omega)
set_option maxHeartbeats 8000000 in
set_option maxRecDepth 100000 in
theorem games_calls (sq fc ov tI : Int) (A : Option Addr) (c : Nat) (l : List S76) (μ : Nat → Nat) (T : Nat) (fr : Int × Int) (mk : Int × Int → Int → Int) (fi : Nat) (fn : Func) (ca : Array Value) (w : World)
    (htI : tI = (T : Int)) (hbd : bOK sq fc ov l = true) (hμ : ∀ i, i ≤ T → μ i ≤ 17) (hT : T ≤ 16) (hfr : fr ∈ spots sq (μ 0)) (hmk : ∀ i u x, i < T → u ∈ spots sq (μ i) → 1 ≤ x → x ≤ fc → 0 ≤ mk u x ∧ mk u x ≤ μ (i + 1))
    (hf : Try.prog.funcs[fi]? = some fn) (hname : (fn.name == "runtime.NumGoroutine") = false) (hbody : fn.body.isSome = true)
    (HC : ∀ i W u x, i < T → Below w.heap.size w W → u ∈ spots sq (μ i) → 1 ≤ x → x ≤ fc → Calls Try.prog fi (#[gv u, .int .i64 x] ++ ca) W fun e w' => e = .returned (.int .i64 (mk u x)) ∧ Below W.heap.size W w')
    (hr : Kd.C k76 w A l.length l) (hc : l.length ≤ c) :
    Calls Try.prog 146 #[.agg #[.int .i64 sq, .int .i64 fc, .int .i64 ov, .slice A l.length c], gv fr, .int .i64 tI, .func (.func fi) #[] ca] w fun e w' =>
      ∃ b, e = .returned (.map (some b)) ∧ cmap Try.prog 3 (Lit.int .i64) ((List.range (μ T + 1)).map Int.ofNat) (fun q => opI sq fc ov l mk T (fun u => if u.1 = sq ∧ u.2 = q then 1 else 0) fr) (μ T + 1) b w' ∧ Below w.heap.size w w' := by
  have hb := bOK_J hbd
  have HTI := Aside0.mk htI
  have HR := Aside0.mk hr
  have HCc := Aside0.mk hc
  have HBD := Aside0.mk hbd
  have HF := Aside0.mk hf
  have HN := Aside0.mk hname
  have HBO := Aside0.mk hbody
  have HCL := Aside0.mk HC
  have HMU := Aside0.mk hμ
  have HMK := Aside0.mk hmk
  have HFR := Aside0.mk hfr
  have hrep : ∀ i, i ≤ T → KeyRep Try.prog 154 gv gkl (spots sq (μ i)) := fun i hi => g_rep (by omega) (by omega) (hμ i hi)
  have HRE := Aside0.mk hrep
  have hsl : ∀ i, i ≤ T → (spots sq (μ i)).length < maxLen := fun i hi => Nat.lt_of_le_of_lt (spots_len (by omega) (hμ i hi)) (by unfold maxLen; omega)
  have HSL := Aside0.mk hsl
  clear htI hr hc hbd hf hname hbody HC hμ hmk hfr hrep hsl
  have hmm := @run_makeMap Try.prog
  have HK := Aside0.mk (⟨blk_alloc (blk_new w _) _, by have h := blk_new (w.alloc (.cells #[.int .i64 sq, .int .i64 fc, .int .i64 ov, .slice A l.length c] 24)) (.cells #[.int .i64 fr.1, .int .i64 fr.2] 154); rw [World.size_alloc] at h; exact h, below_alloc (below_alloc (Below.refl _ _) _) _⟩ :
    GK sq fc ov A c l fr w ((w.alloc (.cells #[.int .i64 sq, .int .i64 fc, .int .i64 ov, .slice A l.length c] 24)).alloc (.cells #[.int .i64 fr.1, .int .i64 fr.2] 154)))
  have HS := Aside0.mk (show ((w.alloc (.cells #[.int .i64 sq, .int .i64 fc, .int .i64 ov, .slice A l.length c] 24)).alloc (.cells #[.int .i64 fr.1, .int .i64 fr.2] 154)).heap.size = w.heap.size + 1 + 1 by rw [World.size_alloc, World.size_alloc])
  have HM0 := Aside0.mk (show cmap Try.prog 154 gkl (spots sq (μ 0)) (fun _ => 0) 0 (w.heap.size + 1 + 1) (((w.alloc (.cells #[.int .i64 sq, .int .i64 fc, .int .i64 ov, .slice A l.length c] 24)).alloc (.cells #[.int .i64 fr.1, .int .i64 fr.2] 154)).alloc (.map #[] 0)) by rw [← HS.out]; exact cmap_made _)
  go_enter Try.func146, Try.ntmps146
  go_wp2_with ((with_reducible refine gate_insert rfl ?_); refine wpList_cmap_put rfl (.tmp 17) (.tmp 18) (.const (.int .i64 1)) 164 (Or.inr rfl) (HRE.out 0 (Nat.zero_le _)) Try.underlying164 (fun _ => 0) 0 (w.heap.size + 1 + 1) (by decide) rfl HM0.out HFR.out rfl rfl (by decide) ?_; intro w1 hm1 hg1)
  have HM := Aside0.mk (hm1.tight (HRE.out 0 (Nat.zero_le _)))
  have HK1 := Aside0.mk ((HK.out.alloc (.map #[] 0)).grown hg1 (Nat.le_refl _))
  have hU := mem_spots (m := μ 0) (u := fr) (show 0 ≤ sq by omega)
  have HS0 := Aside0.mk (show ∀ β, wS (spots sq (μ 0)) (fun u => upd (fun _ => 0) fr 1 u * β u) = opI sq fc ov l mk 0 β fr from fun β => by
    rw [wS_upd (spots_nodup _ _) HFR.out, opI]
    simp [wS_zero])
  have HP0 := Aside0.mk (show ∀ u ∈ spots sq (μ 0), 0 ≤ upd (fun _ => (0 : Int)) fr 1 u from fun u _ => upd01 fr u)
  clear HM0 HS hm1 hg1 HK hU
  go_loopw [9, 21] (fun v9 v21 wr => ∃ (i b : Nat) (g : Int × Int → Int), v9 = .map (some b) ∧ v21 = .int .i64 i ∧ (i : Int) ≤ tI ∧ Aside0 (cmap Try.prog 154 gkl (spots sq (μ i)) g (spots sq (μ i)).length b wr) ∧ Aside0 (∀ u ∈ spots sq (μ i), 0 ≤ g u) ∧ Aside0 (∀ β, wS (spots sq (μ i)) (fun u => g u * β u) = opI sq fc ov l mk i β fr) ∧ Aside0 (GK sq fc ov A c l fr w wr) ∧ Aside0 (w.heap.size + 2 ≤ b)) (fun _ v _ => (tI - intOf v).toNat)
  case atStart => exact ⟨0, w.heap.size + 1 + 1, _, rfl, rfl, by have := HTI.out; omega, HM, HP0, HS0, HK1, ⟨Nat.le_refl _⟩⟩
  case round =>
    clear HM HP0 HS0 HK1
    obtain ⟨i, b, g, rfl, rfl, hi, HM, HP, HS, HK, HBL⟩ := hrel
    by_cases hlt : (i : Int) < tI
    · have hiT : i < T := by have := HTI.out; omega
      have HI := Aside0.mk hiT
      obtain ⟨wA, rfl⟩ : ∃ wA, wA = wr := ⟨_, rfl⟩
      have HRA := Aside0.mk (HRE.out i (by omega))
      have HRB := Aside0.mk (HRE.out (i + 1) (by omega))
      have HMA := Aside0.mk (HM.out.alloc (.map #[] 0))
      go_wp2_with (at_range; refine wpList_cmap_range rfl (.tmp 24) 164 rfl HRA.out Try.underlying164 g _ b rfl HMA.out ?_; intro w2 left cnt hrg hz hg2 hs2)
      go_frame
      obtain ⟨r, hr0⟩ : ∃ r, r = (wA.alloc (.map #[] 0)).heap.size := ⟨_, rfl⟩
      rw [← hr0] at hrg
      rw [← hr0]
      have hbA := HM.out.lt
      have hsA := World.size_alloc wA (.map #[] 0)
      have hrA : r = wA.heap.size + 1 := hr0.trans hsA
      have hBw : Below (wA.alloc (.map #[] 0)).heap.size (wA.alloc (.map #[] 0)) w2 := ⟨hg2.os, hg2.tape, hg2.output, hg2.size, fun k hk => hg2.block k hk (by simp)⟩
      have HRL := Aside0.mk (show w.heap.size + 2 ≤ r by have := HBL.out; omega)
      have HB2L := Aside0.mk (show w.heap.size + 2 ≤ wA.heap.size by have := HBL.out; omega)
      have HN1 := Aside0.mk (show some wA.heap.size ≠ some r by simp; omega)
      have HN2 := Aside0.mk (show some b ≠ some wA.heap.size by simp; omega)
      have HN3 := Aside0.mk (show some r ≠ some wA.heap.size by simp; omega)
      have HX := Aside0.mk hrg
      have HM2 := Aside0.mk (((cmap_made (P := Try.prog) (k := 154) (kl := gkl) (U := spots sq (μ (i + 1))) wA).below hBw).tight HRB.out)
      have HP2 := Aside0.mk (show ∀ u ∈ spots sq (μ (i + 1)), (0 : Int) ≤ (fun _ => 0) u from fun _ _ => by show (0 : Int) ≤ 0; decide)
      have HS2 := Aside0.mk (show ∀ β, wS (spots sq (μ (i + 1))) (fun u => (fun _ => (0 : Int)) u * β u) = wS (spots sq (μ i)) (fun u => if left u = true then 0 else g u * opB sq fc ov l mk β u) from fun β => by
        rw [wS_congr (g := fun _ => 0) (fun u _ => by simp), wS_zero, wS_congr (g := fun _ => 0) (fun u hu => by
          cases hl : left u with
          | true => simp
          | false => simp [hz u hu hl]), wS_zero])
      have HK2 := Aside0.mk ((HK.out.alloc (.map #[] 0)).below hBw)
      clear hr0 hrg hz hg2 hs2 hBw hsA hrA hbA HMA HK HM HBL
      go_loopw [12] (fun _ wr => ∃ (left : Int × Int → Bool) (cnt : Nat) (g2 : Int × Int → Int), Aside0 (crange Try.prog 154 gkl (spots sq (μ i)) g left cnt (spots sq (μ i)).length b r wr) ∧ Aside0 (cmap Try.prog 154 gkl (spots sq (μ (i + 1))) g2 (spots sq (μ (i + 1))).length wA.heap.size wr) ∧ Aside0 (∀ u ∈ spots sq (μ (i + 1)), 0 ≤ g2 u) ∧ Aside0 (∀ β, wS (spots sq (μ (i + 1))) (fun u => g2 u * β u) = wS (spots sq (μ i)) (fun u => if left u = true then 0 else g u * opB sq fc ov l mk β u)) ∧ Aside0 (GK sq fc ov A c l fr w wr)) (fun _ wr => wr.rangeLeft b r)
      case atStart => exact ⟨left, cnt, _, HX, HM2, HP2, HS2, HK2⟩
      case round =>
        clear HX HM2 HP2 HS2 HK2
        obtain ⟨left, cnt, g2, HX, HM2, HP2, HS2, HK2⟩ := hrel
        go_wp2_with (at_next; refine wpList_cmap_next rfl (.tmp 25) rfl HRA.out g left cnt _ b r rfl HX.out ?d ?m; (case' d => intro hdone; have HDN := Aside0.mk hdone; clear hdone); (case' m => intro u hu hl w3 cnt' hrg' hlt' hg3 hs3 hen; have HX3 := Aside0.mk hrg'; have HM3 := Aside0.mk (HM2.out.kept hg3 HN1.out); have HK3 := Aside0.mk (HK2.out.grown hg3 HRL.out); have HU := Aside0.mk hu; have HL := Aside0.mk hl; have HLE := Aside0.mk (show cnt' < cnt from hlt'); have HST := Aside0.mk (fun F => wS_left (spots_nodup sq (μ i)) hu left hl F); have HXE := Aside0.mk HX.out.left_eq; clear hrg' hu hl hlt' hg3 hs3; have z0 : (w3.alloc (.cells #[.int .i64 u.1, .int .i64 u.2] 154)).cell? ⟨w.heap.size, 0, none⟩ = some (.int .i64 sq) := (blk_cell (blk_alloc HK3.out.kb _) 0).trans rfl; have z1 : (w3.alloc (.cells #[.int .i64 u.1, .int .i64 u.2] 154)).cell? ⟨w.heap.size, 1, none⟩ = some (.int .i64 fc) := (blk_cell (blk_alloc HK3.out.kb _) 1).trans rfl))
        · have HE : u.1 = sq := by simpa using (by assumption : (u.1 == sq) = true)
          refine ⟨⟨_, cnt', g2, ⟨HX3.out.alloc _⟩, ⟨HM3.out.alloc _⟩, HP2, ⟨fun β => ?_⟩, ⟨HK3.out.alloc _⟩⟩, ?_⟩
          · rw [HS2.out β]
            have := HST.out (fun v => g v * opB sq fc ov l mk β v)
            have e0 : opB sq fc ov l mk β u = 0 := by unfold opB; rw [if_pos HE]
            rw [e0, Int.mul_zero, Int.add_zero] at this
            exact this.symm
          · have h1 := (HX3.out.alloc (.cells #[.int .i64 u.1, .int .i64 u.2] 154)).left_eq
            have h2 := HXE.out
            have h3 := HLE.out
            omega
        · have HE : ¬ u.1 = sq := by simpa using (by assumption : (u.1 == sq) = false)
          have HE := Aside0.mk HE
          have HBN := Aside0.mk (show wS (spots sq (μ (i + 1))) (fun v => g2 v * 1) + g u * opB sq fc ov l mk (fun _ => 1) u ≤ 281474976710656 by
            have e1 := HS2.out (fun _ => 1)
            have e2 := HST.out (fun v => g v * opB sq fc ov l mk (fun _ => 1) v)
            have e3 := wS_le (U := spots sq (μ i)) (f := fun v => if (left v && !decide (v = u)) = true then 0 else g v * opB sq fc ov l mk (fun _ => 1) v) (g := fun v => g v * opB sq fc ov l mk (fun _ => 1) v) (fun v hv => by
              have := Int.mul_nonneg (HP.out v hv) (opB_nn sq fc ov l mk v)
              split <;> omega)
            have e4 := HS.out (opB sq fc ov l mk (fun _ => 1))
            have e5 := opI_const (sq := sq) (fc := fc) (ov := ov) (l := l) (mk := mk) (by omega) (i + 1) 1 (by omega) fr
            have e6 := p16 (fc := fc) (by omega) (by omega) (show i + 1 ≤ 16 by omega)
            rw [opI] at e5
            omega)
          have HGU := Aside0.mk (HP.out u HU.out)
          have HX4 := Aside0.mk (HX3.out.alloc (.cells #[.int .i64 u.1, .int .i64 u.2] 154))
          have HM4 := Aside0.mk (HM3.out.alloc (.cells #[.int .i64 u.1, .int .i64 u.2] 154))
          have HK4 := Aside0.mk (HK3.out.alloc (.cells #[.int .i64 u.1, .int .i64 u.2] 154))
          have HY4 := Aside0.mk (blk_new w3 (.cells #[.int .i64 u.1, .int .i64 u.2] 154))
          have HNB := Aside0.mk (show some w3.heap.size ≠ some wA.heap.size by have := HM3.out.lt; simp; omega)
          clear z0 z1
          go_loopw [13] (fun v13 wr => ∃ (n : Nat) (x : Int) (g3 : Int × Int → Int), v13 = .int .i64 x ∧ x + n = fc + 1 ∧ 1 ≤ x ∧ Aside0 (crange Try.prog 154 gkl (spots sq (μ i)) g (fun v => left v && !decide (v = u)) cnt' (spots sq (μ i)).length b r wr) ∧ Aside0 (cmap Try.prog 154 gkl (spots sq (μ (i + 1))) g3 (spots sq (μ (i + 1))).length wA.heap.size wr) ∧ Aside0 (∀ v ∈ spots sq (μ (i + 1)), 0 ≤ g3 v) ∧ Aside0 (∀ β, wS (spots sq (μ (i + 1))) (fun v => g3 v * β v) + g u * sumF sq ov l mk β u n x = wS (spots sq (μ (i + 1))) (fun v => g2 v * β v) + g u * opB sq fc ov l mk β u) ∧ Aside0 (GK sq fc ov A c l fr w wr) ∧ Aside0 (wr.heap[w3.heap.size]? = some (.cells #[.int .i64 u.1, .int .i64 u.2] 154 (0, 0)))) (fun v _ => (fc + 1 - intOf v).toNat)
          case atStart => exact ⟨fc.toNat, 1, g2, rfl, by omega, by omega, HX4, HM4, HP2, ⟨fun β => by rw [show opB sq fc ov l mk β u = sumF sq ov l mk β u fc.toNat 1 by unfold opB; rw [if_neg HE.out]]⟩, HK4, HY4⟩
          case round =>
            clear HX4 HM4 HK4 HY4
            obtain ⟨n, x, g3, rfl, hn, hx, HX4, HM4, HP3, HS3, HK4, HY4⟩ := hrel
            have z1 : wr.cell? ⟨w.heap.size, 1, none⟩ = some (.int .i64 fc) := (blk_cell HK4.out.kb 1).trans rfl
            by_cases hle : x ≤ fc
            · obtain ⟨n, rfl⟩ : ∃ q : Nat, n = q + 1 := ⟨n - 1, by omega⟩
              have hU := (mem_spots (show 0 ≤ sq by omega)).1 HU.out
              have hthr := thr_in HBD.out (s := u.1) (f := x) hU.1.1 hU.1.2 hx
              have hmk2 := HMK.out i u x HI.out HU.out hx hle
              have himp := impl_thr HBD.out (s := u.1) (f := x) hU.1.1 hU.1.2 hx (by omega)
              have hcl := fun W hW => HCL.out i W u x HI.out hW HU.out hx hle
              have hs3 := fun β => HS3.out β
              simp only [sumF] at hs3
              obtain ⟨p, hp⟩ : ∃ p, thr sq ov l u.1 x = p := ⟨_, rfl⟩
              obtain ⟨q, hq⟩ : ∃ q, mk u x = q := ⟨_, rfl⟩
              simp only [hp, hq] at hthr hmk2 himp hcl hs3
              have HKY := Aside0.mk (show (p, q) ∈ spots sq (μ (i + 1)) from (mem_spots (by omega)).2 ⟨hthr, hmk2⟩)
              have HIM := Aside0.mk himp
              have HCQ := Aside0.mk hcl
              have HSQ := Aside0.mk hs3
              have HAD := Aside0.mk (show 0 ≤ g3 (p, q) ∧ g3 (p, q) + g u ≤ 281474976710656 by
                have h1 := HP3.out (p, q) HKY.out
                have h2 := wS_ge (spots_nodup sq (μ (i + 1))) HKY.out (f := fun v => g3 v * 1) (fun v hv => by have := HP3.out v hv; simpa using this)
                have h3 := HSQ.out (fun _ => 1)
                have h4 := HBN.out
                have h5 := Int.mul_nonneg HGU.out (show 0 ≤ (n : Int) by omega)
                rw [sumF_one, Int.mul_add, Int.mul_one] at h3
                simp only [Int.mul_one] at h2 h3 h4
                have h6 := HGU.out
                refine ⟨h1, ?_⟩
                omega)
              have sx : IntKind.i64.wrap (g3 (p, q) + g u) = g3 (p, q) + g u := IntWalk.i64_in _ (by have := HAD.out; have := HGU.out; omega)
              clear hthr hmk2 himp hcl hs3 hp hq hU
              go_wp2
              refine start_ (n := 17) (S := fun w' => w'.cell? ⟨w.heap.size, 0, none⟩ = some (.int .i64 sq) ∧ w'.cell? ⟨w.heap.size, 1, none⟩ = some (.int .i64 fc) ∧ w'.cell? ⟨w.heap.size, 2, none⟩ = some (.int .i64 ov) ∧ w'.cell? ⟨w.heap.size, 3, none⟩ = some (.slice A l.length c) ∧ w'.cell? ⟨w3.heap.size, 0, none⟩ = some (.int .i64 u.1) ∧ w'.cell? ⟨w3.heap.size, 1, none⟩ = some (.int .i64 u.2) ∧ (Instr.lookup 164 (.map (some wA.heap.size)) (.agg #[.int .i64 p, .int .i64 q]) false).run Try.prog w' = .ok (.int .i64 (g3 (p, q))) w') (ds := [16]) #[false, false, false, false, false, false, false, false, false, false, false, false, false, false, false, false, false] (by kernel_rfl) rfl rfl ⟨(blk_cell ((HK4.out.drew).kb) 0).trans rfl, (blk_cell ((HK4.out.drew).kb) 1).trans rfl, (blk_cell ((HK4.out.drew).kb) 2).trans rfl, (blk_cell ((HK4.out.drew).kb) 3).trans rfl, (blk_cell (blk_drew HY4.out) 0).trans rfl, (blk_cell (blk_drew HY4.out) 1).trans rfl, (HM4.out.drew).look HRB.out Try.underlying164 HKY.out⟩ (fun hHeld => ?_)
              refine pure_ (i := 0) (N := some 42) (v := ?_) (a' := ?_) #[true, false, false, false, false, false, false, false, false, false, false, false, false, false, false, false, false] rfl rfl (by kernel_rfl) (fun _ _ _ h => h) (Or.inl ⟨by rfl, ?_⟩) ?_ ?_
              rotate_left
              · intro w'
                go_simp
                with_reducible rfl
              rotate_left
              · simp only [Act.put, List.setIfInBounds_toArray, List.set_cons_zero, List.set_cons_succ, i64_w, i32_w]
                rfl
              refine pure_ (i := 2) (N := some 44) (v := ?_) (a' := ?_) #[true, false, true, false, false, false, false, false, false, false, false, false, false, false, false, false, false] rfl rfl (by kernel_rfl) (fun _ _ _ h => h) (Or.inl ⟨by rfl, ?_⟩) ?_ ?_
              rotate_left
              · intro w'
                go_simp
                with_reducible rfl
              rotate_left
              · simp only [Act.put, List.setIfInBounds_toArray, List.set_cons_zero, List.set_cons_succ, i64_w, i32_w]
                rfl
              refine pure_ (i := 4) (N := some 46) (v := ?_) (a' := ?_) #[true, false, true, false, true, false, false, false, false, false, false, false, false, false, false, false, false] rfl rfl (by kernel_rfl) (fun _ _ _ h => h) (Or.inl ⟨by rfl, ?_⟩) ?_ ?_
              rotate_left
              · intro w'
                go_simp
                with_reducible rfl
              rotate_left
              · simp only [Act.put, List.setIfInBounds_toArray, List.set_cons_zero, List.set_cons_succ, i64_w, i32_w]
                rfl
              refine pure_ (i := 6) (N := some 48) (v := ?_) (a' := ?_) #[true, false, true, false, true, false, true, false, false, false, false, false, false, false, false, false, false] rfl rfl (by kernel_rfl) (fun _ _ _ h => h) (Or.inl ⟨by rfl, ?_⟩) ?_ ?_
              rotate_left
              · intro w'
                go_simp
                with_reducible rfl
              rotate_left
              · simp only [Act.put, List.setIfInBounds_toArray, List.set_cons_zero, List.set_cons_succ, i64_w, i32_w]
                rfl
              refine pure_ (i := 8) (N := some 50) (v := ?_) (a' := ?_) #[true, false, true, false, true, false, true, false, true, false, false, false, false, false, false, false, false] rfl rfl (by kernel_rfl) (fun _ _ _ h => h) (Or.inl ⟨by rfl, ?_⟩) ?_ ?_
              rotate_left
              · intro w'
                go_simp
                with_reducible rfl
              rotate_left
              · simp only [Act.put, List.setIfInBounds_toArray, List.set_cons_zero, List.set_cons_succ, i64_w, i32_w]
                rfl
              refine pure_ (i := 12) (N := some 54) (v := ?_) (a' := ?_) #[true, false, true, false, true, false, true, false, true, false, false, false, true, false, false, false, false] rfl rfl (by kernel_rfl) (fun _ _ _ h => h) (Or.inl ⟨by rfl, ?_⟩) ?_ ?_
              rotate_left
              · intro w'
                go_simp
                with_reducible rfl
              rotate_left
              · simp only [Act.put, List.setIfInBounds_toArray, List.set_cons_zero, List.set_cons_succ, i64_w, i32_w]
                rfl
              refine take_ (i := 1) (N := some 43) (v := ?_) (a' := ?_) #[true, true, true, false, true, false, true, false, true, false, false, false, true, false, false, false, false] rfl rfl (by kernel_rfl) (fun _ _ _ h => h) (Or.inl ⟨by rfl, ?_⟩) hHeld ?_ ?_
              rotate_left
              · rintro w' ⟨s0, s1, s2, s3, s4, s5, s6⟩
                go_simp
                with_reducible rfl
              rotate_left
              · simp only [Act.put, List.setIfInBounds_toArray, List.set_cons_zero, List.set_cons_succ, i64_w, i32_w]
                rfl
              refine take_ (i := 3) (N := some 45) (v := ?_) (a' := ?_) #[true, true, true, true, true, false, true, false, true, false, false, false, true, false, false, false, false] rfl rfl (by kernel_rfl) (fun _ _ _ h => h) (Or.inl ⟨by rfl, ?_⟩) hHeld ?_ ?_
              rotate_left
              · rintro w' ⟨s0, s1, s2, s3, s4, s5, s6⟩
                go_simp
                with_reducible rfl
              rotate_left
              · simp only [Act.put, List.setIfInBounds_toArray, List.set_cons_zero, List.set_cons_succ, i64_w, i32_w]
                rfl
              refine take_ (i := 7) (N := some 49) (v := ?_) (a' := ?_) #[true, true, true, true, true, false, true, true, true, false, false, false, true, false, false, false, false] rfl rfl (by kernel_rfl) (fun _ _ _ h => h) (Or.inl ⟨by rfl, ?_⟩) hHeld ?_ ?_
              rotate_left
              · rintro w' ⟨s0, s1, s2, s3, s4, s5, s6⟩
                go_simp
                with_reducible rfl
              rotate_left
              · simp only [Act.put, List.setIfInBounds_toArray, List.set_cons_zero, List.set_cons_succ, i64_w, i32_w]
                rfl
              refine one_ (i := 5) (N := some 47) #[true, true, true, true, true, true, true, true, true, false, false, false, true, false, false, false, false] rfl rfl (by kernel_rfl) (by decide) (fun K hK => ?_)
              refine goes_ Try.func148 (by kernel_rfl) rfl #[.agg #[.int .i64 sq, .int .i64 fc, .int .i64 ov, .slice A l.length c], .int .i64 u.1, .int .i64 x] (by rfl) rfl rfl (by simp only [List.map_toArray, List.map_cons, List.map_nil]; rfl) ?_
              with_reducible refine (impl_Board_throw.calls sq fc ov A c l u.1 x p _ (Kd.C_below HR.out HK4.out.drew.bw) HCc.out HIM.out).mono ?_
              rintro e w5 ⟨rfl, hb5⟩
              refine ⟨_, rfl, ?_⟩
              refine hK.out _ _ ⟨(blk_cell ((HK4.out.drew.below hb5).kb) 0).trans rfl, (blk_cell ((HK4.out.drew.below hb5).kb) 1).trans rfl, (blk_cell ((HK4.out.drew.below hb5).kb) 2).trans rfl, (blk_cell ((HK4.out.drew.below hb5).kb) 3).trans rfl, (blk_cell (blk_below (blk_drew HY4.out) hb5) 0).trans rfl, (blk_cell (blk_below (blk_drew HY4.out) hb5) 1).trans rfl, (HM4.out.drew.below hb5).look HRB.out Try.underlying164 HKY.out⟩ (fun hHeld => ?_)
              clear hK K
              refine norm_ (a' := ?_) ?_ ?_
              rotate_left
              · show Act.put _ (some 47) _ = _
                simp only [Act.put, List.setIfInBounds_toArray, List.set_cons_zero, List.set_cons_succ, i64_w, i32_w]
                rfl
              refine one_ (i := 9) (N := some 51) #[true, true, true, true, true, true, true, true, true, true, false, false, true, false, false, false, false] rfl rfl (by kernel_rfl) (by decide) (fun K hK => ?_)
              refine goesF_ HF.out HN.out HBO.out (#[gv u, .int .i64 x] ++ ca) (by rfl) rfl rfl rfl (by first | rfl | (simp only [List.map_toArray, List.map_cons, List.map_nil]; rfl)) ?_
              with_reducible refine (HCQ.out _ (HK4.out.drew.below hb5).bw).mono ?_
              rintro e w6 ⟨rfl, hb6⟩
              refine ⟨_, rfl, ?_⟩
              refine hK.out _ _ ⟨(blk_cell (((HK4.out.drew.below hb5).below hb6).kb) 0).trans rfl, (blk_cell (((HK4.out.drew.below hb5).below hb6).kb) 1).trans rfl, (blk_cell (((HK4.out.drew.below hb5).below hb6).kb) 2).trans rfl, (blk_cell (((HK4.out.drew.below hb5).below hb6).kb) 3).trans rfl, (blk_cell (blk_below (blk_below (blk_drew HY4.out) hb5) hb6) 0).trans rfl, (blk_cell (blk_below (blk_below (blk_drew HY4.out) hb5) hb6) 1).trans rfl, ((HM4.out.drew.below hb5).below hb6).look HRB.out Try.underlying164 HKY.out⟩ (fun hHeld => ?_)
              clear hK K
              refine norm_ (a' := ?_) ?_ ?_
              rotate_left
              · show Act.put _ (some 51) _ = _
                simp only [Act.put, List.setIfInBounds_toArray, List.set_cons_zero, List.set_cons_succ, i64_w, i32_w]
                rfl
              refine pure_ (i := 10) (N := some 52) (v := ?_) (a' := ?_) #[true, true, true, true, true, true, true, true, true, true, true, false, true, false, false, false, false] rfl rfl (by kernel_rfl) (fun _ _ _ h => h) (Or.inl ⟨by rfl, ?_⟩) ?_ ?_
              rotate_left
              · intro w'
                go_simp
                with_reducible rfl
              rotate_left
              · simp only [Act.put, List.setIfInBounds_toArray, List.set_cons_zero, List.set_cons_succ, i64_w, i32_w]
                rfl
              refine take_ (i := 11) (N := some 53) (v := ?_) (a' := ?_) #[true, true, true, true, true, true, true, true, true, true, true, true, true, false, false, false, false] rfl rfl (by kernel_rfl) (fun _ _ _ h => h) (Or.inl ⟨by rfl, ?_⟩) hHeld ?_ ?_
              rotate_left
              · rintro w' ⟨s0, s1, s2, s3, s4, s5, s6⟩
                go_simp
                with_reducible rfl
              rotate_left
              · simp only [Act.put, List.setIfInBounds_toArray, List.set_cons_zero, List.set_cons_succ, i64_w, i32_w]
                rfl
              refine pure_ (i := 13) (N := some 55) (v := ?_) (a' := ?_) #[true, true, true, true, true, true, true, true, true, true, true, true, true, true, false, false, false] rfl rfl (by kernel_rfl) (fun _ _ _ h => h) (Or.inl ⟨by rfl, ?_⟩) ?_ ?_
              rotate_left
              · intro w'
                go_simp
                with_reducible rfl
              rotate_left
              · simp only [Act.put, List.setIfInBounds_toArray, List.set_cons_zero, List.set_cons_succ, i64_w, i32_w]
                rfl
              refine one_ (i := 14) (N := some 56) #[true, true, true, true, true, true, true, true, true, true, true, true, true, true, true, false, false] rfl rfl (by kernel_rfl) (by decide) (fun K hK => ?_)
              obtain ⟨v0, st, w7, hE1, hE2, hE3, hE4⟩ := ((HM4.out.drew.below hb5).below hb6).entry HRB.out g_law Try.underlying164 (HSL.out (i + 1) (by have := HI.out; omega)) HKY.out
              refine value_ (w1 := w7) (v := .tuple #[v0, goInt st]) (by rfl) rfl ?_ ?_
              · simp [execOp, Act.eval, hE1, Result.andThen]
              refine hK.out _ _ ⟨(blk_cell ((((HK4.out.drew.below hb5).below hb6).grown hE2 HB2L.out).kb) 0).trans rfl, (blk_cell ((((HK4.out.drew.below hb5).below hb6).grown hE2 HB2L.out).kb) 1).trans rfl, (blk_cell ((((HK4.out.drew.below hb5).below hb6).grown hE2 HB2L.out).kb) 2).trans rfl, (blk_cell ((((HK4.out.drew.below hb5).below hb6).grown hE2 HB2L.out).kb) 3).trans rfl, (blk_cell (blk_grown (blk_below (blk_below (blk_drew HY4.out) hb5) hb6) hE2 HNB.out) 0).trans rfl, (blk_cell (blk_grown (blk_below (blk_below (blk_drew HY4.out) hb5) hb6) hE2 HNB.out) 1).trans rfl, hE3⟩ (fun hHeld => ?_)
              clear hK K
              refine norm_ (a' := ?_) ?_ ?_
              rotate_left
              · show Act.put _ (some 56) _ = _
                simp only [Act.put, List.setIfInBounds_toArray, List.set_cons_zero, List.set_cons_succ, i64_w, i32_w]
                rfl
              refine pure_ (i := 15) (N := some 57) (v := ?_) (a' := ?_) #[true, true, true, true, true, true, true, true, true, true, true, true, true, true, true, true, false] rfl rfl (by kernel_rfl) (fun _ _ _ h => h) (Or.inl ⟨by rfl, ?_⟩) ?_ ?_
              rotate_left
              · intro w'
                go_simp
                with_reducible rfl
              rotate_left
              · simp only [Act.put, List.setIfInBounds_toArray, List.set_cons_zero, List.set_cons_succ, i64_w, i32_w]
                rfl
              refine last_ (i := 16) (N := none) #[true, true, true, true, true, true, true, true, true, true, true, true, true, true, true, true, true] rfl rfl (by kernel_rfl) (by decide) (fun K hK => ?_)
              obtain ⟨w9, hE5, hE6, hE7⟩ := hE4 (g3 (p, q) + g u) (WalkArith.wf_i64 (by have := HAD.out; have := HGU.out; omega))
              refine skip_ (w1 := w9) (by rfl) rfl ?_ ?_
              · unfold goInt at hE5
                simp [execOp, Act.eval, hE5, Result.andThen]
              refine hK.out _ _ ?_
              clear hK K
              refine done_ (by kernel_rfl) ?_
              have HM6 := Aside0.mk (hE6.tight HRB.out)
              have HK6 := Aside0.mk ((((HK4.out.drew.below hb5).below hb6).grown hE2 HB2L.out).grown hE7 HB2L.out)
              have HX6 := Aside0.mk ((((HX4.out.drew.below hb5).below hb6).kept hE2 HN2.out HN3.out).kept hE7 HN2.out HN3.out)
              have HY6 := Aside0.mk (blk_grown (blk_grown (blk_below (blk_below (blk_drew HY4.out) hb5) hb6) hE2 HNB.out) hE7 HNB.out)
              clear hE1 hE2 hE3 hE4 hE5 hE6 hE7 hb5 hb6 sx
              go_wp2
              refine ⟨⟨n, x + 1, _, rfl, by omega, by omega, HX6, HM6, ⟨fun v hv => ?_⟩, ⟨fun β => ?_⟩, HK6, HY6⟩, by simp [intOf]; omega⟩
              · unfold upd
                have h1 := HAD.out
                have h2 := HGU.out
                split
                · omega
                · exact HP3.out v hv
              · rw [wS_upd (spots_nodup _ _) HKY.out]
                have h1 := HSQ.out β
                rw [Int.mul_add] at h1
                rw [show g3 (p, q) + g u - g3 (p, q) = g u by omega]
                omega
            · go_wp2
              obtain rfl : n = 0 := by omega
              refine ⟨⟨_, cnt', g3, HX4, HM4, HP3, ⟨fun β => ?_⟩, HK4⟩, ?_⟩
              · have h1 := HS3.out β
                rw [sumF, Int.mul_zero, Int.add_zero] at h1
                rw [h1, HS2.out β]
                exact (HST.out (fun v => g v * opB sq fc ov l mk β v)).symm
              · have h1 := HX4.out.left_eq
                have h2 := HXE.out
                have h3 := HLE.out
                omega
        · refine ⟨⟨i + 1, wA.heap.size, g2, rfl, by go_num, by omega, HM2, HP2, ⟨fun β => ?_⟩, HK2, HB2L⟩, by simp [intOf]; omega⟩
          rw [HS2.out β, wS_congr (g := fun u => g u * opB sq fc ov l mk β u) (fun u hu => by rw [HDN.out u hu]; simp), HS.out]
          rfl
    · obtain ⟨wA, rfl⟩ : ∃ wA, wA = wr := ⟨_, rfl⟩
      obtain rfl : i = T := by have := HTI.out; omega
      have HRA := Aside0.mk (HRE.out i (Nat.le_refl _))
      have HRB := Aside0.mk (i_rep ((List.range (μ i + 1)).map Int.ofNat) (fun u hu => by
        obtain ⟨v, hv, rfl⟩ := List.mem_map.1 hu
        have := List.mem_range.1 hv
        have := HMU.out i (Nat.le_refl _)
        exact WalkArith.wf_i64 (by simp; omega)))
      have HMA := Aside0.mk (HM.out.alloc (.map #[] 0))
      go_wp2_with (at_range; refine wpList_cmap_range rfl (.tmp 61) 164 rfl HRA.out Try.underlying164 g _ b rfl HMA.out ?_; intro w2 left cnt hrg hz hg2 hs2)
      try go_frame
      obtain ⟨r, hr0⟩ : ∃ r, r = (wA.alloc (.map #[] 0)).heap.size := ⟨_, rfl⟩
      rw [← hr0] at hrg
      try rw [← hr0]
      have hbA := HM.out.lt
      have hsA := World.size_alloc wA (.map #[] 0)
      have hrA : r = wA.heap.size + 1 := hr0.trans hsA
      try rw [← hrA]
      have hBw : Below (wA.alloc (.map #[] 0)).heap.size (wA.alloc (.map #[] 0)) w2 := ⟨hg2.os, hg2.tape, hg2.output, hg2.size, fun k hk => hg2.block k hk (by simp)⟩
      have HRL := Aside0.mk (show w.heap.size + 2 ≤ r by have := HBL.out; omega)
      have HB2L := Aside0.mk (show w.heap.size + 2 ≤ wA.heap.size by have := HBL.out; omega)
      have HN1 := Aside0.mk (show some wA.heap.size ≠ some r by simp; omega)
      have HN2 := Aside0.mk (show some b ≠ some wA.heap.size by simp; omega)
      have HN3 := Aside0.mk (show some r ≠ some wA.heap.size by simp; omega)
      have HX := Aside0.mk hrg
      have HM2 := Aside0.mk (((cmap_made (P := Try.prog) (k := 3) (kl := Lit.int .i64) (U := (List.range (μ i + 1)).map Int.ofNat) wA).below hBw).tight HRB.out)
      have HS2 := Aside0.mk (show ∀ q : Int, (fun _ => (0 : Int)) q = wS (spots sq (μ i)) (fun u => if left u = true then 0 else g u * (if u.1 = sq ∧ u.2 = q then 1 else 0)) from fun q => by
        rw [wS_congr (g := fun _ => 0) (fun u hu => by
          cases hl : left u with
          | true => simp
          | false => simp [hz u hu hl]), wS_zero])
      have HK2 := Aside0.mk ((HK.out.alloc (.map #[] 0)).below hBw)
      have HBN := Aside0.mk (show wS (spots sq (μ i)) (fun v => g v * 1) ≤ 281474976710656 by
        have e4 := HS.out (fun _ => 1)
        have e5 := opI_const (sq := sq) (fc := fc) (ov := ov) (l := l) (mk := mk) (by omega) i 1 (by omega) fr
        have e6 := p16 (fc := fc) (by omega) (by omega) hT
        omega)
      clear hr0 hrg hz hg2 hs2 hBw hsA hrA hbA HMA HK HM HBL
      go_loopw [16] (fun _ wr => ∃ (left : Int × Int → Bool) (cnt : Nat) (h : Int → Int), Aside0 (crange Try.prog 154 gkl (spots sq (μ i)) g left cnt (spots sq (μ i)).length b r wr) ∧ Aside0 (cmap Try.prog 3 (Lit.int .i64) ((List.range (μ i + 1)).map Int.ofNat) h ((List.range (μ i + 1)).map Int.ofNat).length wA.heap.size wr) ∧ Aside0 (∀ q, h q = wS (spots sq (μ i)) (fun u => if left u = true then 0 else g u * (if u.1 = sq ∧ u.2 = q then 1 else 0))) ∧ Aside0 (GK sq fc ov A c l fr w wr)) (fun _ wr => wr.rangeLeft b r)
      case atStart => exact ⟨left, cnt, _, HX, HM2, HS2, HK2⟩
      case round =>
        clear HX HM2 HS2 HK2
        obtain ⟨left, cnt, h, HX, HM2, HS2, HK2⟩ := hrel
        go_wp2_with (first
          | (at_next; refine wpList_cmap_next rfl (.tmp 62) rfl HRA.out g left cnt _ b r rfl HX.out ?d2 ?m2; (case' d2 => intro hdone; have HDN := Aside0.mk hdone; clear hdone); (case' m2 => intro u hu hl w3 cnt' hrg' hlt' hg3 hs3 hen; have HX3 := Aside0.mk hrg'; have HM3 := Aside0.mk ((HM2.out.kept hg3 HN1.out).alloc (.cells #[.int .i64 u.1, .int .i64 u.2] 154)); have HK3 := Aside0.mk (HK2.out.grown hg3 HRL.out); have HU := Aside0.mk hu; have HL := Aside0.mk hl; have HLE := Aside0.mk (show cnt' < cnt from hlt'); have HST := Aside0.mk (fun F => wS_left (spots_nodup sq (μ i)) hu left hl F); have HXE := Aside0.mk HX.out.left_eq; clear hrg' hu hl hlt' hg3 hs3; (have z0 : (w3.alloc (.cells #[.int .i64 u.1, .int .i64 u.2] 154)).cell? ⟨w.heap.size, 0, none⟩ = some (.int .i64 sq) := (blk_cell (blk_alloc HK3.out.kb _) 0).trans rfl); (have z1 : (w3.alloc (.cells #[.int .i64 u.1, .int .i64 u.2] 154)).cell? ⟨w.heap.size + 1, 0, none⟩ = some (.int .i64 fr.1) := (blk_cell (blk_alloc HK3.out.kf _) 0).trans rfl); (have HU3 := Aside0.mk (spots_mark (by omega) HU.out)); (have HAD : u.1 = sq → 0 ≤ h u.2 ∧ h u.2 + g u ≤ 281474976710656 := games_bd sq (μ i) u left g h HU.out HP.out HS2.out HST.out HBN.out); (rcases Bool.eq_false_or_eq_true (u.1 == sq) with hq | hq); (focus (obtain ⟨hk1, hk2⟩ := HAD (by simpa using hq); clear HAD; (rcases Bool.eq_false_or_eq_true (decide ((0 : Int) < tI)) with hi0 | hi0); (focus skip); (focus (rcases Bool.eq_false_or_eq_true (fr.1 == sq) with hf0 | hf0))))))
          | (at_lookup; refine wpList_cmap_look rfl (.tmp 84) (.tmp 86) 155 rfl HRB.out Try.underlying155 h _ wA.heap.size rfl HM3.out HU3.out rfl ?_)
          | (at_mapUpdate; have HGU := HP.out u HU.out; have hsx := (i64_w (h u.2 + g u)).symm.trans (IntWalk.i64_in (h u.2 + g u) (by omega)); refine wpList_cmap_put rfl (.tmp 84) (.tmp 86) (.tmp 89) 155 (Or.inl rfl) HRB.out Try.underlying155 h _ wA.heap.size (Nat.lt_of_le_of_lt (marks_len (HMU.out i (Nat.le_refl _))) (by decide)) rfl HM3.out HU3.out rfl (congrArg (Value.int .i64) hsx) (WalkArith.wf_i64 (by omega)) ?_; intro w4 hm4 hg4))
        iterate 3
          · have HE : u.1 = sq := by simpa using hq
            have HM5 := Aside0.mk (hm4.tight HRB.out)
            have HX5 := Aside0.mk ((HX3.out.alloc (.cells #[.int .i64 u.1, .int .i64 u.2] 154)).kept hg4 HN2.out HN3.out)
            have HK5 := Aside0.mk ((HK3.out.alloc (.cells #[.int .i64 u.1, .int .i64 u.2] 154)).grown hg4 HB2L.out)
            clear hm4 hg4
            simp only [Act.put]
            go_big_round
            refine ⟨⟨_, cnt', _, HX5, HM5, ⟨fun q => ?_⟩, HK5⟩, ?_⟩
            · have h1 := HS2.out q
              have h2 := HST.out (fun v => g v * (if v.1 = sq ∧ v.2 = q then 1 else 0))
              refine Eq.trans ?_ h2.symm
              rw [← h1]
              unfold upd
              by_cases hqq : q = u.2
              · subst hqq
                simp [HE]
              · simp [hqq, Ne.symm hqq]
            · have h1 := HX5.out.left_eq
              have h2 := HXE.out
              have h3 := HLE.out
              omega
        · have HE : u.1 = sq := by simpa using hq
          have HF1 : ¬ fr.1 = sq := by simpa using (by assumption : (fr.1 == sq) = false)
          have hi1 : ¬ (0 : Int) < tI := by simpa using hi0
          have hi2 : i = 0 := by have := HTI.out; omega
          have HG0 : g u = 0 := by
            have h1 := HS.out (fun v => if v = u then 1 else 0)
            have h2 := wS_one (spots_nodup sq (μ i)) HU.out (g u)
            rw [wS_congr (g := fun v => if v = u then g u else 0) (fun v _ => by
              by_cases e : v = u
              · simp [e]
              · simp [e]), h2, hi2] at h1
            rw [h1, opI]
            rw [if_neg (fun e => HF1 (by rw [e]; exact HE))]
          refine ⟨⟨_, cnt', h, ⟨HX3.out.alloc _⟩, HM3, ⟨fun q => ?_⟩, ⟨HK3.out.alloc _⟩⟩, ?_⟩
          · have h1 := HS2.out q
            have h2 := HST.out (fun v => g v * (if v.1 = sq ∧ v.2 = q then 1 else 0))
            rw [h1]
            refine Eq.trans ?_ h2.symm
            simp [HG0]
          · have h1 := (HX3.out.alloc (.cells #[.int .i64 u.1, .int .i64 u.2] 154)).left_eq
            have h2 := HXE.out
            have h3 := HLE.out
            omega
        · have HE : ¬ u.1 = sq := by simpa using hq
          refine ⟨⟨_, cnt', h, ⟨HX3.out.alloc _⟩, HM3, ⟨fun q => ?_⟩, ⟨HK3.out.alloc _⟩⟩, ?_⟩
          · have h1 := HS2.out q
            have h2 := HST.out (fun v => g v * (if v.1 = sq ∧ v.2 = q then 1 else 0))
            rw [h1]
            refine Eq.trans ?_ h2.symm
            simp [HE]
          · have h1 := (HX3.out.alloc (.cells #[.int .i64 u.1, .int .i64 u.2] 154)).left_eq
            have h2 := HXE.out
            have h3 := HLE.out
            omega
        · go_ret
          refine ⟨_, rfl, ?_, HK2.out.bw⟩
          have hlen : ((List.range (μ i + 1)).map Int.ofNat).length = μ i + 1 := by simp
          have h9 := HM2.out
          rw [hlen] at h9
          refine h9.congr fun q hq => ?_
          rw [HS2.out q, ← HS.out (fun u => if u.1 = sq ∧ u.2 = q then 1 else 0)]
          exact (wS_congr (fun u hu => by rw [HDN.out u hu]; rfl)).symm
end Go.Proofs.Ytnoejflancomaaa.P
end

section
namespace Go.Proofs.Ytnoejflancomaaa.P
set_option linter.unusedVariables false
set_option linter.unusedSimpArgs false
open Go Go.RowKit Go.Proofs.YtnoejflancomaaaW.PrintWords Go.Proofs.YtnoejflancomaaaW.PrintLast Go.Proofs.YtnoejflancomaaaW.PrintMore
attribute [local go_sem] max2_int min2_int max_two min_two max_three min_three max_four min_four
def mkO (sq ov : Int) (l : List S76) (square : Int) (u : Int × Int) (x : Int) : Int := if thr sq ov l u.1 x = square then 1 else u.2
set_option maxHeartbeats 4000000 in
set_option maxRecDepth 100000 in
theorem over_mark (sq fc ov : Int) (A : Option Addr) (c : Nat) (l : List S76) (square : Int) (u : Int × Int) (x : Int) (bb bs : Nat) (w : World)
    (hbd : bOK sq fc ov l = true) (h0 : 0 ≤ u.1) (h1 : u.1 ≤ sq) (hx : 1 ≤ x) (hx2 : x ≤ fc)
    (hkb : w.heap[bb]? = some (.cells #[.int .i64 sq, .int .i64 fc, .int .i64 ov, .slice A l.length c] 24 (0, 0))) (hks : w.heap[bs]? = some (.cells #[.int .i64 square] 3 (0, 0)))
    (hr : Kd.C k76 w A l.length l) (hc : l.length ≤ c) :
    Calls Try.prog 147 #[gv u, .int .i64 x, .pointer (some ⟨bb, 0, none⟩), .pointer (some ⟨bs, 0, none⟩)] w fun e w' => e = .returned (.int .i64 (mkO sq ov l square u x)) ∧ Below w.heap.size w w' := by
  have hb := bOK_J hbd
  have himp := impl_thr hbd (s := u.1) (f := x) h0 h1 hx (by omega)
  have HGL := Aside0.mk (show mkO sq ov l square u x = if thr sq ov l u.1 x = square then 1 else u.2 from rfl)
  obtain ⟨r, hr1⟩ : ∃ r, mkO sq ov l square u x = r := ⟨_, rfl⟩
  obtain ⟨p, hp⟩ : ∃ p, thr sq ov l u.1 x = p := ⟨_, rfl⟩
  simp only [hr1, hp] at himp HGL
  rw [hr1]
  have HIM := Aside0.mk himp
  have HR := Aside0.mk hr
  have HCc := Aside0.mk hc
  have HB := Aside0.mk (below_alloc (Below.refl w.heap.size w) (.cells #[.int .i64 u.1, .int .i64 u.2] 154))
  have HKB := Aside0.mk (blk_alloc hkb (.cells #[.int .i64 u.1, .int .i64 u.2] 154))
  have HKS := Aside0.mk (blk_alloc hks (.cells #[.int .i64 u.1, .int .i64 u.2] 154))
  have HKU := Aside0.mk (blk_new w (.cells #[.int .i64 u.1, .int .i64 u.2] 154))
  clear hr1 hp himp hr hc hkb hks
  rcases Bool.eq_false_or_eq_true (p == square) with hq | hq
  all_goals
    have HQ := Aside0.mk hq
    go_enter Try.func147, Try.ntmps147
    go_wp2
    refine start_ (n := 7) (S := fun w' => w'.cell? ⟨bb, 0, none⟩ = some (.int .i64 sq) ∧ w'.cell? ⟨bb, 1, none⟩ = some (.int .i64 fc) ∧ w'.cell? ⟨bb, 2, none⟩ = some (.int .i64 ov) ∧ w'.cell? ⟨bb, 3, none⟩ = some (.slice A l.length c) ∧ w'.cell? ⟨bs, 0, none⟩ = some (.int .i64 square) ∧ w'.cell? ⟨w.heap.size, 0, none⟩ = some (.int .i64 u.1) ∧ w'.cell? ⟨w.heap.size, 1, none⟩ = some (.int .i64 u.2)) (ds := []) #[false, false, false, false, false, false, false] (by kernel_rfl) rfl rfl ⟨(blk_cell (blk_drew HKB.out) 0).trans rfl, (blk_cell (blk_drew HKB.out) 1).trans rfl, (blk_cell (blk_drew HKB.out) 2).trans rfl, (blk_cell (blk_drew HKB.out) 3).trans rfl, (blk_cell (blk_drew HKS.out) 0).trans rfl, (blk_cell (blk_drew HKU.out) 0).trans rfl, (blk_cell (blk_drew HKU.out) 1).trans rfl⟩ (fun hHeld => ?_)
    refine pure_ (i := 1) (N := some 8) (v := ?_) (a' := ?_) #[false, true, false, false, false, false, false] rfl rfl (by kernel_rfl) (fun _ _ _ h => h) (Or.inl ⟨by rfl, ?_⟩) ?_ ?_
    rotate_left
    · intro w'
      go_simp
      with_reducible rfl
    rotate_left
    · simp only [Act.put, List.setIfInBounds_toArray, List.set_cons_zero, List.set_cons_succ, i64_w, i32_w]
      rfl
    refine pure_ (i := 3) (N := some 10) (v := ?_) (a' := ?_) #[false, true, false, true, false, false, false] rfl rfl (by kernel_rfl) (fun _ _ _ h => h) (Or.inl ⟨by rfl, ?_⟩) ?_ ?_
    rotate_left
    · intro w'
      go_simp
      with_reducible rfl
    rotate_left
    · simp only [Act.put, List.setIfInBounds_toArray, List.set_cons_zero, List.set_cons_succ, i64_w, i32_w]
      rfl
    refine take_ (i := 0) (N := some 7) (v := ?_) (a' := ?_) #[true, true, false, true, false, false, false] rfl rfl (by kernel_rfl) (fun _ _ _ h => h) (Or.inl ⟨by rfl, ?_⟩) hHeld ?_ ?_
    rotate_left
    · rintro w' ⟨s0, s1, s2, s3, s4, s5, s6⟩
      go_simp
      with_reducible rfl
    rotate_left
    · simp only [Act.put, List.setIfInBounds_toArray, List.set_cons_zero, List.set_cons_succ, i64_w, i32_w]
      rfl
    refine take_ (i := 2) (N := some 9) (v := ?_) (a' := ?_) #[true, true, true, true, false, false, false] rfl rfl (by kernel_rfl) (fun _ _ _ h => h) (Or.inl ⟨by rfl, ?_⟩) hHeld ?_ ?_
    rotate_left
    · rintro w' ⟨s0, s1, s2, s3, s4, s5, s6⟩
      go_simp
      with_reducible rfl
    rotate_left
    · simp only [Act.put, List.setIfInBounds_toArray, List.set_cons_zero, List.set_cons_succ, i64_w, i32_w]
      rfl
    refine take_ (i := 5) (N := some 12) (v := ?_) (a' := ?_) #[true, true, true, true, false, true, false] rfl rfl (by kernel_rfl) (fun _ _ _ h => h) (Or.inl ⟨by rfl, ?_⟩) hHeld ?_ ?_
    rotate_left
    · rintro w' ⟨s0, s1, s2, s3, s4, s5, s6⟩
      go_simp
      with_reducible rfl
    rotate_left
    · simp only [Act.put, List.setIfInBounds_toArray, List.set_cons_zero, List.set_cons_succ, i64_w, i32_w]
      rfl
    refine one_ (i := 4) (N := some 11) #[true, true, true, true, true, true, false] rfl rfl (by kernel_rfl) (by decide) (fun K hK => ?_)
    refine goes_ Try.func148 (by kernel_rfl) rfl #[.agg #[.int .i64 sq, .int .i64 fc, .int .i64 ov, .slice A l.length c], .int .i64 u.1, .int .i64 x] (by rfl) rfl rfl (by simp only [List.map_toArray, List.map_cons, List.map_nil]; rfl) ?_
    with_reducible refine (impl_Board_throw.calls sq fc ov A c l u.1 x p _ (Kd.C_below HR.out (below_drew HB.out)) HCc.out HIM.out).mono ?_
    rintro e w4 ⟨rfl, hb4⟩
    refine ⟨_, rfl, ?_⟩
    refine hK.out _ _ ⟨(blk_cell (blk_below (blk_drew HKB.out) hb4) 0).trans rfl, (blk_cell (blk_below (blk_drew HKB.out) hb4) 1).trans rfl, (blk_cell (blk_below (blk_drew HKB.out) hb4) 2).trans rfl, (blk_cell (blk_below (blk_drew HKB.out) hb4) 3).trans rfl, (blk_cell (blk_below (blk_drew HKS.out) hb4) 0).trans rfl, (blk_cell (blk_below (blk_drew HKU.out) hb4) 0).trans rfl, (blk_cell (blk_below (blk_drew HKU.out) hb4) 1).trans rfl⟩ (fun hHeld => ?_)
    clear hK K
    refine norm_ (a' := ?_) ?_ ?_
    rotate_left
    · show Act.put _ (some 11) _ = _
      simp only [Act.put, List.setIfInBounds_toArray, List.set_cons_zero, List.set_cons_succ, i64_w, i32_w]
      rfl
    refine pure_ (i := 6) (N := some 13) (v := ?_) (a' := ?_) #[true, true, true, true, true, true, true] rfl rfl (by kernel_rfl) (fun _ _ _ h => h) (Or.inl ⟨by rfl, ?_⟩) ?_ ?_
    rotate_left
    · intro w'
      go_simp
      with_reducible rfl
    rotate_left
    · simp only [Act.put, List.setIfInBounds_toArray, List.set_cons_zero, List.set_cons_succ, i64_w, i32_w]
      rfl
    refine done_ (by kernel_rfl) ?_
    have z0 : w4.cell? ⟨w.heap.size, 1, none⟩ = some (.int .i64 u.2) := (blk_cell (blk_below (blk_drew HKU.out) hb4) 1).trans rfl
    have HBE := Aside0.mk ((below_drew HB.out).trans (hb4.mono (below_drew HB.out).size))
    clear hb4
    go_wp2
    go_ret
    refine ⟨?_, HBE.out⟩
    rw [HGL.out]
    first
      | (rw [if_pos (by simpa using HQ.out)]; rfl)
      | (rw [if_neg (by simpa using HQ.out)]; rfl)
end Go.Proofs.Ytnoejflancomaaa.P
end

section
namespace Go.Proofs.Ytnoejflancomaaa.P
open Go.RowKit Go.Proofs.YtnoejflancomaaaW.PrintWords Go.Proofs.YtnoejflancomaaaW.PrintLast Go.Proofs.YtnoejflancomaaaW.PrintMore
attribute [local go_sem] max2_int min2_int max_two min_two max_three min_three max_four min_four
set_option linter.unusedVariables false
set_option linter.unusedSimpArgs false
def impl_Board_over.f (sq fc ov : Int) (l : List S76) (t square : Int) : Option Int :=
  if bOK sq fc ov l = true ∧ 0 ≤ t ∧ t ≤ 16 then some (opI sq fc ov l (mkO sq ov l square) t.toNat (fun u => if u.1 = sq ∧ u.2 = 1 then 1 else 0) (0, if square = 0 then 1 else 0)) else none
set_option maxHeartbeats 4000000 in
set_option maxRecDepth 100000 in
theorem impl_Board_over.calls (sq fc ov : Int) (A : Option Addr) (c : Nat) (l : List S76) (t square : Int) (r : Int) (w : World) (hr : Kd.C k76 w A l.length l) (hc : l.length ≤ c) (h : impl_Board_over.f sq fc ov l t square = some r) :
    Calls Try.prog 91 #[.agg #[.int .i64 sq, .int .i64 fc, .int .i64 ov, .slice A l.length c], .int .i64 t, .int .i64 square] w fun e w' => e = .returned (.int .i64 r) ∧ Below w.heap.size w w' := by
  unfold impl_Board_over.f at h
  split at h
  case isFalse => simp at h
  rename_i hh
  obtain ⟨hbd, ht0, ht1⟩ := hh
  have h := Option.some.inj h
  have hb := bOK_J hbd
  obtain ⟨T, rfl⟩ : ∃ T : Nat, t = (T : Int) := ⟨t.toNat, by omega⟩
  obtain ⟨tI, htI⟩ : ∃ tI : Int, tI = (T : Int) := ⟨_, rfl⟩
  rw [← htI]
  rw [show ((T : Int)).toNat = T by omega] at h
  have HH := Aside0.mk h
  have HT := Aside0.mk htI
  have HR := Aside0.mk hr
  have HCc := Aside0.mk hc
  have HT1 := Aside0.mk (show T ≤ 16 by omega)
  obtain ⟨m0, hm0⟩ : ∃ m0 : Int, m0 = if square = 0 then 1 else 0 := ⟨_, rfl⟩
  have HM0 := Aside0.mk hm0
  have HFR := Aside0.mk (show ((0, m0) : Int × Int) ∈ spots sq 1 from (mem_spots (by omega)).2 ⟨⟨by omega, by show (0 : Int) ≤ sq; omega⟩, ⟨by show (0 : Int) ≤ m0; rw [hm0]; split <;> omega, by show m0 ≤ ((1 : Nat) : Int); rw [hm0]; split <;> omega⟩⟩)
  have HGC := Aside0.mk (fun (bb bs : Nat) (W0 : World) (hkb : W0.heap[bb]? = some (.cells #[.int .i64 sq, .int .i64 fc, .int .i64 ov, .slice A l.length c] 24 (0, 0))) (hks : W0.heap[bs]? = some (.cells #[.int .i64 square] 3 (0, 0))) (hbw : Below w.heap.size w W0) =>
    games_calls sq fc ov tI A c l (fun _ => 1) T (0, m0) (mkO sq ov l square) 147 _ #[.pointer (some ⟨bb, 0, none⟩), .pointer (some ⟨bs, 0, none⟩)] W0 htI hbd (fun _ _ => by decide) HT1.out HFR.out
      (fun i u x _ hu _ _ => by
        have hu := (mem_spots (show 0 ≤ sq by omega)).1 hu
        unfold mkO
        split
        · exact ⟨by decide, by decide⟩
        · exact hu.2)
      Try.func147 (by kernel_rfl) (by kernel_rfl)
      (fun i W u x _ hW hu hx1 hx2 => by
        have hu := (mem_spots (show 0 ≤ sq by omega)).1 hu
        exact over_mark sq fc ov A c l square u x bb bs W hbd hu.1.1 hu.1.2 hx1 hx2 (blk_below hkb hW) (blk_below hks hW) (Kd.C_below HR.out (hbw.trans (hW.mono hbw.size))) HCc.out)
      (Kd.C_below HR.out hbw) HCc.out)
  clear h hr hc htI hm0
  have HRB := Aside0.mk (i_rep ((List.range (1 + 1)).map Int.ofNat) (fun u hu => by
    obtain ⟨v, hv, rfl⟩ := List.mem_map.1 hu
    have := List.mem_range.1 hv
    exact WalkArith.wf_i64 (by simp; omega)))
  have HU1 := Aside0.mk (show (1 : Int) ∈ (List.range (1 + 1)).map Int.ofNat by decide)
  have HKB := Aside0.mk (fun o3 : Obj => blk_alloc (blk_alloc (blk_new w (.cells #[.int .i64 sq, .int .i64 fc, .int .i64 ov, .slice A l.length c] 24)) (.cells #[.int .i64 square] 3)) o3)
  have HKS := Aside0.mk (fun o3 : Obj => show (((w.alloc (.cells #[.int .i64 sq, .int .i64 fc, .int .i64 ov, .slice A l.length c] 24)).alloc (.cells #[.int .i64 square] 3)).alloc o3).heap[w.heap.size + 1]? = some (.cells #[.int .i64 square] 3 (0, 0)) by
    have h1 := blk_alloc (blk_new (w.alloc (.cells #[.int .i64 sq, .int .i64 fc, .int .i64 ov, .slice A l.length c] 24)) (.cells #[.int .i64 square] 3)) o3
    rwa [World.size_alloc] at h1)
  have HBW := Aside0.mk (fun o3 : Obj => below_alloc (below_alloc (below_alloc (Below.refl w.heap.size w) (.cells #[.int .i64 sq, .int .i64 fc, .int .i64 ov, .slice A l.length c] 24)) (.cells #[.int .i64 square] 3)) o3)
  rcases Bool.eq_false_or_eq_true (square == 0) with c1 | c1
  · obtain rfl : m0 = 1 := by have h1 := HM0.out; rwa [if_pos (by simpa using c1)] at h1
    go_enter Try.func91, Try.ntmps91
    go_wp2_with (first
      | (go_at_call 146; refine (HGC.out _ _ _ (HKB.out _) (HKS.out _) (HBW.out _)).mono ?_; rintro e w1 ⟨b, rfl, hm, hb1⟩; have HM := Aside0.mk hm; have HBE := Aside0.mk ((HBW.out _).trans (hb1.mono (HBW.out _).size)); clear hm hb1)
      | (at_lookup; refine wpList_cmap_look rfl _ _ 155 rfl HRB.out Try.underlying155 _ _ b rfl HM.out HU1.out rfl ?_))
    go_ret
    have h1 := HH.out
    rw [← HM0.out] at h1
    exact ⟨by rw [← h1]; rfl, HBE.out⟩
  · obtain rfl : m0 = 0 := by have h1 := HM0.out; rwa [if_neg (by simpa using c1)] at h1
    go_enter Try.func91, Try.ntmps91
    go_wp2_with (first
      | (go_at_call 146; refine (HGC.out _ _ _ (HKB.out _) (HKS.out _) (HBW.out _)).mono ?_; rintro e w1 ⟨b, rfl, hm, hb1⟩; have HM := Aside0.mk hm; have HBE := Aside0.mk ((HBW.out _).trans (hb1.mono (HBW.out _).size)); clear hm hb1)
      | (at_lookup; refine wpList_cmap_look rfl _ _ 155 rfl HRB.out Try.underlying155 _ _ b rfl HM.out HU1.out rfl ?_))
    go_ret
    have h1 := HH.out
    rw [← HM0.out] at h1
    exact ⟨by rw [← h1]; rfl, HBE.out⟩
end Go.Proofs.Ytnoejflancomaaa.P
end

section
namespace Go.Proofs.Ytnoejflancomaaa.P
open Go.RowKit Go.Proofs.YtnoejflancomaaaW.PrintWords Go.Proofs.YtnoejflancomaaaW.PrintLast Go.Proofs.YtnoejflancomaaaW.PrintMore
attribute [local go_sem] max2_int min2_int max_two min_two max_three min_three max_four min_four
set_option linter.unusedVariables false
set_option linter.unusedSimpArgs false
def impl_CountGamesOver.f (a0_0 : Int) (a0_1 : Int) (a0_2 : Int) (l0_3 : List (S76)) (a1 : Int) (a2 : Int) : Option (Int × Bool) := (impl_isGamed.f a0_0 a0_1 a0_2 l0_3 a1).bind fun t409 => (if t409 = true then ((impl_Board_isSquare.f a0_0 a0_1 a0_2 l0_3 a2).bind fun t410 => (if t410 = true then ((impl_Board_over.f a0_0 a0_1 a0_2 l0_3 a1 a2).bind fun t411 => (some (t411, true))) else (some (0, false)))) else (some (0, false)))
set_option maxHeartbeats 8000000 in
set_option maxRecDepth 100000 in
theorem impl_CountGamesOver.calls (a0_0 : Int) (a0_1 : Int) (a0_2 : Int) (A0_3 : Option Addr) (c0_3 : Nat) (l0_3 : List (S76)) (a1 : Int) (a2 : Int) (r1 : Int) (r2 : Bool) (w : World) (hr0_3 : Kd.C k76 w A0_3 l0_3.length l0_3) (hc0_3 : l0_3.length ≤ c0_3) (h : impl_CountGamesOver.f a0_0 a0_1 a0_2 l0_3 a1 a2 = some (r1, r2)) :
    Calls Try.prog 35 #[.agg #[.int .i64 a0_0, .int .i64 a0_1, .int .i64 a0_2, .slice A0_3 l0_3.length c0_3], .int .i64 a1, .int .i64 a2] w fun e w' => e = .returned (.tuple #[.int .i64 r1, .bool r2]) ∧ Below w.heap.size w w' := by
  have hu24 := Try.underlying24
  have HR0_3 := Aside0.mk hr0_3
  have HC0_3 := Aside0.mk hc0_3
  clear hr0_3 hc0_3
  have HB := Aside0.mk (Below.refl w.heap.size w)
  have H : ((impl_isGamed.f a0_0 a0_1 a0_2 l0_3 a1).bind fun t409 => (if t409 = true then ((impl_Board_isSquare.f a0_0 a0_1 a0_2 l0_3 a2).bind fun t410 => (if t410 = true then ((impl_Board_over.f a0_0 a0_1 a0_2 l0_3 a1 a2).bind fun t411 => (some (t411, true))) else (some (0, false)))) else (some (0, false)))) = some (r1, r2) := h
  clear h
  replace H := Option.bind_eq_some_iff.mp H
  obtain ⟨t409, A40, H⟩ := H
  replace H : (if t409 = true then ((impl_Board_isSquare.f a0_0 a0_1 a0_2 l0_3 a2).bind fun t410 => (if t410 = true then ((impl_Board_over.f a0_0 a0_1 a0_2 l0_3 a1 a2).bind fun t411 => (some (t411, true))) else (some (0, false)))) else (some (0, false))) = some (r1, r2) := H
  have A4 := Aside0.mk A40
  clear A40
  by_cases c5 : t409 = true
  · subst c5
    have H1 : ((impl_Board_isSquare.f a0_0 a0_1 a0_2 l0_3 a2).bind fun t410 => (if t410 = true then ((impl_Board_over.f a0_0 a0_1 a0_2 l0_3 a1 a2).bind fun t411 => (some (t411, true))) else (some (0, false)))) = some (r1, r2) := by rw [if_pos rfl] at H; exact H
    clear H
    have H := H1
    clear H1
    replace H := Option.bind_eq_some_iff.mp H
    obtain ⟨t410, A60, H⟩ := H
    replace H : (if t410 = true then ((impl_Board_over.f a0_0 a0_1 a0_2 l0_3 a1 a2).bind fun t411 => (some (t411, true))) else (some (0, false))) = some (r1, r2) := H
    have A6 := Aside0.mk A60
    clear A60
    by_cases c7 : t410 = true
    · subst c7
      have H1 : ((impl_Board_over.f a0_0 a0_1 a0_2 l0_3 a1 a2).bind fun t411 => (some (t411, true))) = some (r1, r2) := by rw [if_pos rfl] at H; exact H
      clear H
      have H := H1
      clear H1
      replace H := Option.bind_eq_some_iff.mp H
      obtain ⟨t411, A80, H⟩ := H
      replace H : (some (t411, true)) = some (r1, r2) := H
      have A8 := Aside0.mk A80
      clear A80
      simp only [Option.some.injEq, Prod.mk.injEq] at H
      obtain ⟨rfl, rfl⟩ := H
      go_enter Try.func35, Try.ntmps35
      go_wp2_with (first | ((with_reducible refine gate_dst (N := 3) rfl ?_); refine box_event ?hg (N := 3) ?hd (cs := #[.int .i64 a0_0, .int .i64 a0_1, .int .i64 a0_2, .slice A0_3 l0_3.length c0_3]) (t := 24) ?hr ?_; (case hd => rfl); (case hg => rfl); (case hr => first | (go_simp; done) | (go_simp; rfl)); intro gb408 hg w9 hbox hb; have n0_ := Aside0.mk (below_step (by repeat (first | (with_reducible first | exact HB.out | apply below_alloc | apply pw_below_drewN | apply below_drew1) | exact HB.out)) hb); have n1_ := Aside0.mk (hbox); have n2_ := Aside0.mk ((by rw [hg]; exact (below_size (by repeat (first | (with_reducible first | exact HB.out | apply below_alloc | apply pw_below_drewN | apply below_drew1) | exact HB.out))) : w.heap.size ≤ gb408)); have n3_ := Aside0.mk ((by rw [hg]; exact (below_size (by repeat (first | (with_reducible first | exact HB.out | apply below_alloc | apply pw_below_drewN | apply below_drew1) | exact HB.out))) : w.heap.size ≤ gb408)); clear HB; have HB := n0_; have BK408 := n1_; have GW408 := n2_; have GE408 := n3_; clear n0_ n1_ n2_ n3_; clear hb hbox hg; have hcz10_0 : w9.cell? ⟨gb408, 0, none⟩ = some (.int .i64 a0_0) := (blk_cell BK408.out 0).trans rfl; have hcz10_1 : w9.cell? ⟨gb408, 1, none⟩ = some (.int .i64 a0_1) := (blk_cell BK408.out 1).trans rfl; have hcz10_2 : w9.cell? ⟨gb408, 2, none⟩ = some (.int .i64 a0_2) := (blk_cell BK408.out 2).trans rfl; have hcz10_3 : w9.cell? ⟨gb408, 3, none⟩ = some (.slice A0_3 l0_3.length c0_3) := (blk_cell BK408.out 3).trans rfl; have hfz10_0 := blk_frozen BK408.out 0; have hfz10_1 := blk_frozen BK408.out 1; have hfz10_2 := blk_frozen BK408.out 2; have hfz10_3 := blk_frozen BK408.out 3) | ((with_reducible refine gate_callee (f := 89) rfl ?_); refine goesL_ (some 10) rfl rfl Try.func89 (by kernel_rfl) rfl #[.agg #[.int .i64 a0_0, .int .i64 a0_1, .int .i64 a0_2, .slice A0_3 l0_3.length c0_3], .int .i64 a1] rfl (by (try simp only [List.map_toArray, List.map_cons, List.map_nil]); first | done | rfl | (simp only [List.length_drop, List.length_take]; rfl)) ?_; (with_reducible refine (impl_isGamed.calls a0_0 a0_1 a0_2 _ _ l0_3 a1 true _ ?side1 ?side2 A4.out).mono ?_); (case side1 => repeat (first | exact (Kd.C_below HR0_3.out HB.out) | (with_reducible refine Kd.C_alloc ?_ _) | (with_reducible refine Kd.C_drewN ?_ _) | (with_reducible refine Kd.C_drew ?_))); (case side2 => exact HC0_3.out); rintro e w11 ⟨rfl, hb⟩; refine ⟨_, rfl, ?_⟩; have n0_ := Aside0.mk (blk_below (g := gb408) (o := .cells #[.int .i64 a0_0, .int .i64 a0_1, .int .i64 a0_2, .slice A0_3 l0_3.length c0_3] 24 (0, 0)) (by (with_reducible repeat (first | refine blk_drewN ?_ _ | refine blk_drew ?_ | refine blk_alloc ?_ _)); exact BK408.out) hb); have n1_ := Aside0.mk (below_step (by repeat (first | (with_reducible first | exact HB.out | apply below_alloc | apply pw_below_drewN | apply below_drew1 | refine below_set ?_ GE408.out) | exact HB.out)) hb); clear BK408; clear HB; have BK408 := n0_; have HB := n1_; clear n0_ n1_; (try clear hb); (try clear hb2); (try clear hk); (try clear hi); have hcz12_0 : w11.cell? ⟨gb408, 0, none⟩ = some (.int .i64 a0_0) := (blk_cell BK408.out 0).trans rfl; have hcz12_1 : w11.cell? ⟨gb408, 1, none⟩ = some (.int .i64 a0_1) := (blk_cell BK408.out 1).trans rfl; have hcz12_2 : w11.cell? ⟨gb408, 2, none⟩ = some (.int .i64 a0_2) := (blk_cell BK408.out 2).trans rfl; have hcz12_3 : w11.cell? ⟨gb408, 3, none⟩ = some (.slice A0_3 l0_3.length c0_3) := (blk_cell BK408.out 3).trans rfl; have hfz12_0 := blk_frozen BK408.out 0; have hfz12_1 := blk_frozen BK408.out 1; have hfz12_2 := blk_frozen BK408.out 2; have hfz12_3 := blk_frozen BK408.out 3) | (go_at_call 90; (with_reducible refine (impl_Board_isSquare.calls a0_0 a0_1 a0_2 _ _ l0_3 a2 true _ ?side1 ?side2 A6.out).mono ?_); (case side1 => repeat (first | exact (Kd.C_below HR0_3.out HB.out) | (with_reducible refine Kd.C_alloc ?_ _) | (with_reducible refine Kd.C_drewN ?_ _) | (with_reducible refine Kd.C_drew ?_))); (case side2 => exact HC0_3.out); rintro e w13 ⟨rfl, hb⟩; have n0_ := Aside0.mk (blk_below (g := gb408) (o := .cells #[.int .i64 a0_0, .int .i64 a0_1, .int .i64 a0_2, .slice A0_3 l0_3.length c0_3] 24 (0, 0)) (by (with_reducible repeat (first | refine blk_drewN ?_ _ | refine blk_drew ?_ | refine blk_alloc ?_ _)); exact BK408.out) hb); have n1_ := Aside0.mk (below_step (by repeat (first | (with_reducible first | exact HB.out | apply below_alloc | apply pw_below_drewN | apply below_drew1 | refine below_set ?_ GE408.out) | exact HB.out)) hb); clear BK408; clear HB; have BK408 := n0_; have HB := n1_; clear n0_ n1_; (try clear hb); (try clear hb2); (try clear hk); (try clear hi); have hcz14_0 : w13.cell? ⟨gb408, 0, none⟩ = some (.int .i64 a0_0) := (blk_cell BK408.out 0).trans rfl; have hcz14_1 : w13.cell? ⟨gb408, 1, none⟩ = some (.int .i64 a0_1) := (blk_cell BK408.out 1).trans rfl; have hcz14_2 : w13.cell? ⟨gb408, 2, none⟩ = some (.int .i64 a0_2) := (blk_cell BK408.out 2).trans rfl; have hcz14_3 : w13.cell? ⟨gb408, 3, none⟩ = some (.slice A0_3 l0_3.length c0_3) := (blk_cell BK408.out 3).trans rfl; have hfz14_0 := blk_frozen BK408.out 0; have hfz14_1 := blk_frozen BK408.out 1; have hfz14_2 := blk_frozen BK408.out 2; have hfz14_3 := blk_frozen BK408.out 3) | ((with_reducible refine gate_callee (f := 91) rfl ?_); refine goesL_ (some 21) rfl rfl Try.func91 (by kernel_rfl) rfl #[.agg #[.int .i64 a0_0, .int .i64 a0_1, .int .i64 a0_2, .slice A0_3 l0_3.length c0_3], .int .i64 a1, .int .i64 a2] rfl (by (try simp only [List.map_toArray, List.map_cons, List.map_nil]); first | done | rfl | (simp only [List.length_drop, List.length_take]; rfl)) ?_; (with_reducible refine (impl_Board_over.calls a0_0 a0_1 a0_2 _ _ l0_3 a1 a2 t411 _ ?side1 ?side2 A8.out).mono ?_); (case side1 => repeat (first | exact (Kd.C_below HR0_3.out HB.out) | (with_reducible refine Kd.C_alloc ?_ _) | (with_reducible refine Kd.C_drewN ?_ _) | (with_reducible refine Kd.C_drew ?_))); (case side2 => exact HC0_3.out); rintro e w15 ⟨rfl, hb⟩; refine ⟨_, rfl, ?_⟩; have n0_ := Aside0.mk (blk_below (g := gb408) (o := .cells #[.int .i64 a0_0, .int .i64 a0_1, .int .i64 a0_2, .slice A0_3 l0_3.length c0_3] 24 (0, 0)) (by (with_reducible repeat (first | refine blk_drewN ?_ _ | refine blk_drew ?_ | refine blk_alloc ?_ _)); exact BK408.out) hb); have n1_ := Aside0.mk (below_step (by repeat (first | (with_reducible first | exact HB.out | apply below_alloc | apply pw_below_drewN | apply below_drew1 | refine below_set ?_ GE408.out) | exact HB.out)) hb); clear BK408; clear HB; have BK408 := n0_; have HB := n1_; clear n0_ n1_; (try clear hb); (try clear hb2); (try clear hk); (try clear hi)))
      go_ret2
      exact ⟨by first | rfl | (simp [errW_none, errW_some] <;> rfl) | (simp [*, errW_none, errW_some] <;> rfl), by repeat (first | (with_reducible first | exact HB.out | apply below_alloc | apply pw_below_drewN | apply below_drew1 | refine below_set ?_ GE408.out) | exact HB.out)⟩
    · replace c7 := Bool.eq_false_iff.mpr c7
      subst c7
      have H1 : (some (0, false)) = some (r1, r2) := by rw [if_neg (show ¬ (false = true) by decide)] at H; exact H
      clear H
      have H := H1
      clear H1
      simp only [Option.some.injEq, Prod.mk.injEq] at H
      obtain ⟨rfl, rfl⟩ := H
      go_enter Try.func35, Try.ntmps35
      go_wp2_with (first | ((with_reducible refine gate_dst (N := 3) rfl ?_); refine box_event ?hg (N := 3) ?hd (cs := #[.int .i64 a0_0, .int .i64 a0_1, .int .i64 a0_2, .slice A0_3 l0_3.length c0_3]) (t := 24) ?hr ?_; (case hd => rfl); (case hg => rfl); (case hr => first | (go_simp; done) | (go_simp; rfl)); intro gb408 hg w16 hbox hb; have n0_ := Aside0.mk (below_step (by repeat (first | (with_reducible first | exact HB.out | apply below_alloc | apply pw_below_drewN | apply below_drew1) | exact HB.out)) hb); have n1_ := Aside0.mk (hbox); have n2_ := Aside0.mk ((by rw [hg]; exact (below_size (by repeat (first | (with_reducible first | exact HB.out | apply below_alloc | apply pw_below_drewN | apply below_drew1) | exact HB.out))) : w.heap.size ≤ gb408)); have n3_ := Aside0.mk ((by rw [hg]; exact (below_size (by repeat (first | (with_reducible first | exact HB.out | apply below_alloc | apply pw_below_drewN | apply below_drew1) | exact HB.out))) : w.heap.size ≤ gb408)); clear HB; have HB := n0_; have BK408 := n1_; have GW408 := n2_; have GE408 := n3_; clear n0_ n1_ n2_ n3_; clear hb hbox hg; have hcz17_0 : w16.cell? ⟨gb408, 0, none⟩ = some (.int .i64 a0_0) := (blk_cell BK408.out 0).trans rfl; have hcz17_1 : w16.cell? ⟨gb408, 1, none⟩ = some (.int .i64 a0_1) := (blk_cell BK408.out 1).trans rfl; have hcz17_2 : w16.cell? ⟨gb408, 2, none⟩ = some (.int .i64 a0_2) := (blk_cell BK408.out 2).trans rfl; have hcz17_3 : w16.cell? ⟨gb408, 3, none⟩ = some (.slice A0_3 l0_3.length c0_3) := (blk_cell BK408.out 3).trans rfl; have hfz17_0 := blk_frozen BK408.out 0; have hfz17_1 := blk_frozen BK408.out 1; have hfz17_2 := blk_frozen BK408.out 2; have hfz17_3 := blk_frozen BK408.out 3) | ((with_reducible refine gate_callee (f := 89) rfl ?_); refine goesL_ (some 10) rfl rfl Try.func89 (by kernel_rfl) rfl #[.agg #[.int .i64 a0_0, .int .i64 a0_1, .int .i64 a0_2, .slice A0_3 l0_3.length c0_3], .int .i64 a1] rfl (by (try simp only [List.map_toArray, List.map_cons, List.map_nil]); first | done | rfl | (simp only [List.length_drop, List.length_take]; rfl)) ?_; (with_reducible refine (impl_isGamed.calls a0_0 a0_1 a0_2 _ _ l0_3 a1 true _ ?side1 ?side2 A4.out).mono ?_); (case side1 => repeat (first | exact (Kd.C_below HR0_3.out HB.out) | (with_reducible refine Kd.C_alloc ?_ _) | (with_reducible refine Kd.C_drewN ?_ _) | (with_reducible refine Kd.C_drew ?_))); (case side2 => exact HC0_3.out); rintro e w18 ⟨rfl, hb⟩; refine ⟨_, rfl, ?_⟩; have n0_ := Aside0.mk (blk_below (g := gb408) (o := .cells #[.int .i64 a0_0, .int .i64 a0_1, .int .i64 a0_2, .slice A0_3 l0_3.length c0_3] 24 (0, 0)) (by (with_reducible repeat (first | refine blk_drewN ?_ _ | refine blk_drew ?_ | refine blk_alloc ?_ _)); exact BK408.out) hb); have n1_ := Aside0.mk (below_step (by repeat (first | (with_reducible first | exact HB.out | apply below_alloc | apply pw_below_drewN | apply below_drew1 | refine below_set ?_ GE408.out) | exact HB.out)) hb); clear BK408; clear HB; have BK408 := n0_; have HB := n1_; clear n0_ n1_; (try clear hb); (try clear hb2); (try clear hk); (try clear hi); have hcz19_0 : w18.cell? ⟨gb408, 0, none⟩ = some (.int .i64 a0_0) := (blk_cell BK408.out 0).trans rfl; have hcz19_1 : w18.cell? ⟨gb408, 1, none⟩ = some (.int .i64 a0_1) := (blk_cell BK408.out 1).trans rfl; have hcz19_2 : w18.cell? ⟨gb408, 2, none⟩ = some (.int .i64 a0_2) := (blk_cell BK408.out 2).trans rfl; have hcz19_3 : w18.cell? ⟨gb408, 3, none⟩ = some (.slice A0_3 l0_3.length c0_3) := (blk_cell BK408.out 3).trans rfl; have hfz19_0 := blk_frozen BK408.out 0; have hfz19_1 := blk_frozen BK408.out 1; have hfz19_2 := blk_frozen BK408.out 2; have hfz19_3 := blk_frozen BK408.out 3) | (go_at_call 90; (with_reducible refine (impl_Board_isSquare.calls a0_0 a0_1 a0_2 _ _ l0_3 a2 false _ ?side1 ?side2 A6.out).mono ?_); (case side1 => repeat (first | exact (Kd.C_below HR0_3.out HB.out) | (with_reducible refine Kd.C_alloc ?_ _) | (with_reducible refine Kd.C_drewN ?_ _) | (with_reducible refine Kd.C_drew ?_))); (case side2 => exact HC0_3.out); rintro e w20 ⟨rfl, hb⟩; have n0_ := Aside0.mk (blk_below (g := gb408) (o := .cells #[.int .i64 a0_0, .int .i64 a0_1, .int .i64 a0_2, .slice A0_3 l0_3.length c0_3] 24 (0, 0)) (by (with_reducible repeat (first | refine blk_drewN ?_ _ | refine blk_drew ?_ | refine blk_alloc ?_ _)); exact BK408.out) hb); have n1_ := Aside0.mk (below_step (by repeat (first | (with_reducible first | exact HB.out | apply below_alloc | apply pw_below_drewN | apply below_drew1 | refine below_set ?_ GE408.out) | exact HB.out)) hb); clear BK408; clear HB; have BK408 := n0_; have HB := n1_; clear n0_ n1_; (try clear hb); (try clear hb2); (try clear hk); (try clear hi)))
      go_ret2
      exact ⟨by first | rfl | (simp [errW_none, errW_some] <;> rfl) | (simp [*, errW_none, errW_some] <;> rfl), by repeat (first | (with_reducible first | exact HB.out | apply below_alloc | apply pw_below_drewN | apply below_drew1 | refine below_set ?_ GE408.out) | exact HB.out)⟩
  · replace c5 := Bool.eq_false_iff.mpr c5
    subst c5
    have H1 : (some (0, false)) = some (r1, r2) := by rw [if_neg (show ¬ (false = true) by decide)] at H; exact H
    clear H
    have H := H1
    clear H1
    simp only [Option.some.injEq, Prod.mk.injEq] at H
    obtain ⟨rfl, rfl⟩ := H
    go_enter Try.func35, Try.ntmps35
    go_wp2_with (first | ((with_reducible refine gate_dst (N := 3) rfl ?_); refine box_event ?hg (N := 3) ?hd (cs := #[.int .i64 a0_0, .int .i64 a0_1, .int .i64 a0_2, .slice A0_3 l0_3.length c0_3]) (t := 24) ?hr ?_; (case hd => rfl); (case hg => rfl); (case hr => first | (go_simp; done) | (go_simp; rfl)); intro gb408 hg w21 hbox hb; have n0_ := Aside0.mk (below_step (by repeat (first | (with_reducible first | exact HB.out | apply below_alloc | apply pw_below_drewN | apply below_drew1) | exact HB.out)) hb); have n1_ := Aside0.mk (hbox); have n2_ := Aside0.mk ((by rw [hg]; exact (below_size (by repeat (first | (with_reducible first | exact HB.out | apply below_alloc | apply pw_below_drewN | apply below_drew1) | exact HB.out))) : w.heap.size ≤ gb408)); have n3_ := Aside0.mk ((by rw [hg]; exact (below_size (by repeat (first | (with_reducible first | exact HB.out | apply below_alloc | apply pw_below_drewN | apply below_drew1) | exact HB.out))) : w.heap.size ≤ gb408)); clear HB; have HB := n0_; have BK408 := n1_; have GW408 := n2_; have GE408 := n3_; clear n0_ n1_ n2_ n3_; clear hb hbox hg; have hcz22_0 : w21.cell? ⟨gb408, 0, none⟩ = some (.int .i64 a0_0) := (blk_cell BK408.out 0).trans rfl; have hcz22_1 : w21.cell? ⟨gb408, 1, none⟩ = some (.int .i64 a0_1) := (blk_cell BK408.out 1).trans rfl; have hcz22_2 : w21.cell? ⟨gb408, 2, none⟩ = some (.int .i64 a0_2) := (blk_cell BK408.out 2).trans rfl; have hcz22_3 : w21.cell? ⟨gb408, 3, none⟩ = some (.slice A0_3 l0_3.length c0_3) := (blk_cell BK408.out 3).trans rfl; have hfz22_0 := blk_frozen BK408.out 0; have hfz22_1 := blk_frozen BK408.out 1; have hfz22_2 := blk_frozen BK408.out 2; have hfz22_3 := blk_frozen BK408.out 3) | ((with_reducible refine gate_callee (f := 89) rfl ?_); refine goesL_ (some 10) rfl rfl Try.func89 (by kernel_rfl) rfl #[.agg #[.int .i64 a0_0, .int .i64 a0_1, .int .i64 a0_2, .slice A0_3 l0_3.length c0_3], .int .i64 a1] rfl (by (try simp only [List.map_toArray, List.map_cons, List.map_nil]); first | done | rfl | (simp only [List.length_drop, List.length_take]; rfl)) ?_; (with_reducible refine (impl_isGamed.calls a0_0 a0_1 a0_2 _ _ l0_3 a1 false _ ?side1 ?side2 A4.out).mono ?_); (case side1 => repeat (first | exact (Kd.C_below HR0_3.out HB.out) | (with_reducible refine Kd.C_alloc ?_ _) | (with_reducible refine Kd.C_drewN ?_ _) | (with_reducible refine Kd.C_drew ?_))); (case side2 => exact HC0_3.out); rintro e w23 ⟨rfl, hb⟩; refine ⟨_, rfl, ?_⟩; have n0_ := Aside0.mk (blk_below (g := gb408) (o := .cells #[.int .i64 a0_0, .int .i64 a0_1, .int .i64 a0_2, .slice A0_3 l0_3.length c0_3] 24 (0, 0)) (by (with_reducible repeat (first | refine blk_drewN ?_ _ | refine blk_drew ?_ | refine blk_alloc ?_ _)); exact BK408.out) hb); have n1_ := Aside0.mk (below_step (by repeat (first | (with_reducible first | exact HB.out | apply below_alloc | apply pw_below_drewN | apply below_drew1 | refine below_set ?_ GE408.out) | exact HB.out)) hb); clear BK408; clear HB; have BK408 := n0_; have HB := n1_; clear n0_ n1_; (try clear hb); (try clear hb2); (try clear hk); (try clear hi)))
    go_ret2
    exact ⟨by first | rfl | (simp [errW_none, errW_some] <;> rfl) | (simp [*, errW_none, errW_some] <;> rfl), by repeat (first | (with_reducible first | exact HB.out | apply below_alloc | apply pw_below_drewN | apply below_drew1 | refine below_set ?_ GE408.out) | exact HB.out)⟩
end Go.Proofs.Ytnoejflancomaaa.P
end
