/- The program's PairThrowsUsed returns what the reference's returns, for all pairs and lists of throws, and leaves the throws as they were. -/
import Derived.Maps.OwnSet
import Derived.Maps.OwnOps
import Derived.DeepKeys4
import Derived.Handy
import Derived.Test.YtgahigmpcgfbeaaFnExactPairThrowsUsedc1
section
namespace Go.Proofs.Ytgahigmpcgfbeaa.P
open Go.RowKit Go.Proofs.YtgahigmpcgfbeaaW.PrintWords Go.Proofs.YtgahigmpcgfbeaaW.PrintLast Go.Proofs.YtgahigmpcgfbeaaW.PrintMore
attribute [local go_sem] max2_int min2_int max_two min_two max_three min_three max_four min_four
set_option linter.unusedVariables false
set_option linter.unusedSimpArgs false
def spec_PairThrowsUsed.l0 : Nat → Int → List (List Int) → Int → Int → Option (Int × Bool)
  | 0, _, _, _, _ => none
  | k + 1, x0, x26, x27, x28 => if x28 < x27 then (if 0 ≤ x28 then (if x28 < (x26.length : Int) then (if 0 < ((rd_L7 x26 x28).length : Int) then (if 1 < ((rd_L7 x26 x28).length : Int) then (if (wrap64 ((rd (rd_L7 x26 x28) 0) + (rd (rd_L7 x26 x28) 1))) = (wrap64 (2 * x0)) then (some (x28, true)) else (spec_PairThrowsUsed.l0 k x0 x26 x27 (wrap64 (x28 + 1)))) else (none)) else (none)) else (none)) else (none)) else (some (0, false))
def spec_PairThrowsUsed.f (k : Nat) (a0 : Int) (a1 : Int) (a2 : Int) (a3 : Int) (l4 : List Int) : Option (Int × Bool) := (spec_oiThrows.f k a0 a1 a2 a3 l4).bind fun t1051 => (if t1051 = true then ((spec_oiPlay.f k a0 a1 a2 a3 l4).bind fun t1052 => (spec_PairThrowsUsed.l0 k a0 t1052 (t1052.length : Int) 0)) else (some (0, false)))
theorem spec_PairThrowsUsed.mono_l : ∀ k, (∀ y0 y1 y2 y3, LeO (spec_PairThrowsUsed.l0 k y0 y1 y2 y3) (spec_PairThrowsUsed.l0 (k + 1) y0 y1 y2 y3))
  | 0 => fun _ _ _ _ r h => by simp [spec_PairThrowsUsed.l0] at h
  | k + 1 => by
    have ih0 := spec_PairThrowsUsed.mono_l k
    · intro y0 y1 y2 y3
      unfold spec_PairThrowsUsed.l0
      repeat' first
      | (with_reducible exact ih0 _ _ _ _)
      | (with_reducible exact spec_oiPlay.mono _ _ _ _ _ _)
      | (with_reducible exact spec_oiThrows.mono _ _ _ _ _ _)
      | (with_reducible exact LeO.refl _)
      | (with_reducible exact LeO.none _)
      | (with_reducible refine LeO.ite ?_ ?_)
      | (with_reducible refine LeO.bind ?_ (fun _ => ?_))
      | exact ih0 _ _ _ _
      | exact spec_oiPlay.mono _ _ _ _ _ _
      | exact spec_oiThrows.mono _ _ _ _ _ _
      | exact LeO.none _
      | refine LeO.ite ?_ ?_
      | refine LeO.bind ?_ (fun _ => ?_)
theorem spec_PairThrowsUsed.mono : ∀ a0 a1 a2 a3 a4 k, LeO (spec_PairThrowsUsed.f k a0 a1 a2 a3 a4) (spec_PairThrowsUsed.f (k + 1) a0 a1 a2 a3 a4) := by
  intro a0 a1 a2 a3 a4 k
  have ih0 := spec_PairThrowsUsed.mono_l k
  unfold spec_PairThrowsUsed.f
  repeat' first
      | (with_reducible exact ih0 _ _ _ _)
      | (with_reducible exact spec_oiPlay.mono _ _ _ _ _ _)
      | (with_reducible exact spec_oiThrows.mono _ _ _ _ _ _)
      | (with_reducible exact LeO.refl _)
      | (with_reducible exact LeO.none _)
      | (with_reducible refine LeO.ite ?_ ?_)
      | (with_reducible refine LeO.bind ?_ (fun _ => ?_))
      | exact ih0 _ _ _ _
      | exact spec_oiPlay.mono _ _ _ _ _ _
      | exact spec_oiThrows.mono _ _ _ _ _ _
      | exact LeO.none _
      | refine LeO.ite ?_ ?_
      | refine LeO.bind ?_ (fun _ => ?_)
set_option maxHeartbeats 8000000 in
set_option maxRecDepth 100000 in
theorem spec_PairThrowsUsed.calls (k : Nat) (a0 : Int) (a1 : Int) (a2 : Int) (a3 : Int) (A4 : Option Addr) (c4 : Nat) (l4 : List Int) (r1 : Int) (r2 : Bool) (w : World) (hr4 : Kd.C (Kd.int .i64) w A4 l4.length l4) (hc4 : l4.length ≤ c4) (h : spec_PairThrowsUsed.f k a0 a1 a2 a3 l4 = some (r1, r2)) :
    Calls Try.prog 60 #[.int .i64 a0, .int .i64 a1, .int .i64 a2, .int .i64 a3, .slice A4 l4.length c4] w fun e w' => e = .returned (.tuple #[.int .i64 r1, .bool r2]) ∧ Below w.heap.size w w' := by
  have HR4 := Aside0.mk hr4
  have HC4 := Aside0.mk hc4
  clear hr4 hc4
  have HB := Aside0.mk (Below.refl w.heap.size w)
  have H : ((spec_oiThrows.f k a0 a1 a2 a3 l4).bind fun t1051 => (if t1051 = true then ((spec_oiPlay.f k a0 a1 a2 a3 l4).bind fun t1052 => (spec_PairThrowsUsed.l0 k a0 t1052 (t1052.length : Int) 0)) else (some (0, false)))) = some (r1, r2) := h
  clear h
  replace H := Option.bind_eq_some_iff.mp H
  obtain ⟨t1051, A60, H⟩ := H
  replace H : (if t1051 = true then ((spec_oiPlay.f k a0 a1 a2 a3 l4).bind fun t1052 => (spec_PairThrowsUsed.l0 k a0 t1052 (t1052.length : Int) 0)) else (some (0, false))) = some (r1, r2) := H
  have A6 := Aside0.mk A60
  clear A60
  by_cases c7 : t1051 = true
  · subst c7
    have H1 : ((spec_oiPlay.f k a0 a1 a2 a3 l4).bind fun t1052 => (spec_PairThrowsUsed.l0 k a0 t1052 (t1052.length : Int) 0)) = some (r1, r2) := by rw [if_pos rfl] at H; exact H
    clear H
    have H := H1
    clear H1
    replace H := Option.bind_eq_some_iff.mp H
    obtain ⟨t1052, A80, H⟩ := H
    replace H : (spec_PairThrowsUsed.l0 k a0 t1052 (t1052.length : Int) 0) = some (r1, r2) := H
    have A8 := Aside0.mk A80
    clear A80
    have H' := Aside0.mk H
    clear H
    go_enter Try.func60, Try.ntmps60
    go_wp2_with (first | (go_at_call 196; (with_reducible refine (spec_oiThrows.calls k a0 a1 a2 a3 _ _ l4 true _ ?side1 ?side2 A6.out).mono ?_); (case side1 => repeat (first | exact HR4.out | (with_reducible refine Kd.C_alloc ?_ _) | (with_reducible refine Kd.C_drewN ?_ _) | (with_reducible refine Kd.C_drew ?_))); (case side2 => exact HC4.out); rintro e w' ⟨rfl, ⟨nd, rfl⟩⟩; (try first | exact ⟨rfl, _, World.drewN_drewN _ _ _⟩ | exact ⟨rfl, _, Eq.trans (World.drewN_drewN _ _ _) (congrArg (World.drewN _) (Nat.add_assoc _ _ _))⟩)) | (go_at_call 197; (with_reducible refine (spec_oiPlay.calls k a0 a1 a2 a3 _ _ l4 t1052 _ ?side1 ?side2 A8.out).mono ?_); (case side1 => repeat (first | exact HR4.out | (with_reducible refine Kd.C_alloc ?_ _) | (with_reducible refine Kd.C_drewN ?_ _) | (with_reducible refine Kd.C_drew ?_))); (case side2 => exact HC4.out); rintro e w9 ⟨v1053, rfl, ho0, hb⟩; have n0_ := Aside0.mk (Kd.N_lower (Kd.N_mono (ok' := fun k_ => True) ho0 (fun k_ hk_ => trivial)) (below_size (by repeat (first | (with_reducible first | exact HB.out | apply below_alloc | apply pw_below_drewN | apply below_drew1) | exact HB.out)))); have n1_ := Aside0.mk (below_step (by repeat (first | (with_reducible first | exact HB.out | apply below_alloc | apply pw_below_drewN | apply below_drew1) | exact HB.out)) hb); clear HB; have HO1054 := n0_; have HB := n1_; clear n0_ n1_; (try clear hb); (try clear hb2); (try clear hk); (try clear hi); (try clear ho0); obtain ⟨Ao10, co10, eo10⟩ := Kd.N_slice HO1054.out; subst eo10))
    repeat (go_quiet (first | (go_at_call 196; (with_reducible refine (spec_oiThrows.calls k a0 a1 a2 a3 _ _ l4 true _ ?side1 ?side2 A6.out).mono ?_); (case side1 => repeat (first | exact HR4.out | (with_reducible refine Kd.C_alloc ?_ _) | (with_reducible refine Kd.C_drewN ?_ _) | (with_reducible refine Kd.C_drew ?_))); (case side2 => exact HC4.out); rintro e w' ⟨rfl, ⟨nd, rfl⟩⟩; (try first | exact ⟨rfl, _, World.drewN_drewN _ _ _⟩ | exact ⟨rfl, _, Eq.trans (World.drewN_drewN _ _ _) (congrArg (World.drewN _) (Nat.add_assoc _ _ _))⟩)) | (go_at_call 197; (with_reducible refine (spec_oiPlay.calls k a0 a1 a2 a3 _ _ l4 t1052 _ ?side1 ?side2 A8.out).mono ?_); (case side1 => repeat (first | exact HR4.out | (with_reducible refine Kd.C_alloc ?_ _) | (with_reducible refine Kd.C_drewN ?_ _) | (with_reducible refine Kd.C_drew ?_))); (case side2 => exact HC4.out); rintro e w9 ⟨v1053, rfl, ho0, hb⟩; have n0_ := Aside0.mk (Kd.N_lower (Kd.N_mono (ok' := fun k_ => True) ho0 (fun k_ hk_ => trivial)) (below_size (by repeat (first | (with_reducible first | exact HB.out | apply below_alloc | apply pw_below_drewN | apply below_drew1) | exact HB.out)))); have n1_ := Aside0.mk (below_step (by repeat (first | (with_reducible first | exact HB.out | apply below_alloc | apply pw_below_drewN | apply below_drew1) | exact HB.out)) hb); clear HB; have HO1054 := n0_; have HB := n1_; clear n0_ n1_; (try clear hb); (try clear hb2); (try clear hk); (try clear hi); (try clear ho0); obtain ⟨Ao10, co10, eo10⟩ := Kd.N_slice HO1054.out; subst eo10)); try go_wp2_with (first | (go_at_call 196; (with_reducible refine (spec_oiThrows.calls k a0 a1 a2 a3 _ _ l4 true _ ?side1 ?side2 A6.out).mono ?_); (case side1 => repeat (first | exact HR4.out | (with_reducible refine Kd.C_alloc ?_ _) | (with_reducible refine Kd.C_drewN ?_ _) | (with_reducible refine Kd.C_drew ?_))); (case side2 => exact HC4.out); rintro e w' ⟨rfl, ⟨nd, rfl⟩⟩; (try first | exact ⟨rfl, _, World.drewN_drewN _ _ _⟩ | exact ⟨rfl, _, Eq.trans (World.drewN_drewN _ _ _) (congrArg (World.drewN _) (Nat.add_assoc _ _ _))⟩)) | (go_at_call 197; (with_reducible refine (spec_oiPlay.calls k a0 a1 a2 a3 _ _ l4 t1052 _ ?side1 ?side2 A8.out).mono ?_); (case side1 => repeat (first | exact HR4.out | (with_reducible refine Kd.C_alloc ?_ _) | (with_reducible refine Kd.C_drewN ?_ _) | (with_reducible refine Kd.C_drew ?_))); (case side2 => exact HC4.out); rintro e w9 ⟨v1053, rfl, ho0, hb⟩; have n0_ := Aside0.mk (Kd.N_lower (Kd.N_mono (ok' := fun k_ => True) ho0 (fun k_ hk_ => trivial)) (below_size (by repeat (first | (with_reducible first | exact HB.out | apply below_alloc | apply pw_below_drewN | apply below_drew1) | exact HB.out)))); have n1_ := Aside0.mk (below_step (by repeat (first | (with_reducible first | exact HB.out | apply below_alloc | apply pw_below_drewN | apply below_drew1) | exact HB.out)) hb); clear HB; have HO1054 := n0_; have HB := n1_; clear n0_ n1_; (try clear hb); (try clear hb2); (try clear hk); (try clear hi); (try clear ho0); obtain ⟨Ao10, co10, eo10⟩ := Kd.N_slice HO1054.out; subst eo10)))
    go_loopg [28] k (fun kq v28 w' => ∃ (x28_1 : Int), v28 = .int .i64 x28_1 ∧ Aside0 (spec_PairThrowsUsed.l0 kq a0 t1052 (t1052.length : Int) x28_1 = some (r1, r2)) ∧ Aside0 (kq ≤ k) ∧ Aside0 (Kd.N (Kd.slice 3 (Kd.int .i64)) 26 w' w.heap.size (fun _ => True) (.slice Ao10 t1052.length co10) t1052) ∧ Aside0 (Below w.heap.size w w'))
    case atStart => exact ⟨(0), (by first | rfl | (simp; done) | (simp [*]; done)), H', ⟨Nat.le_refl _⟩, ⟨by (with_reducible repeat (first | apply Kd.N_alloc | apply Kd.N_drewN | apply Kd.N_drew)); exact HO1054.out⟩, ⟨by repeat (first | (with_reducible first | exact HB.out | apply below_alloc | apply pw_below_drewN | apply below_drew1) | exact HB.out)⟩⟩
    case round =>
      clear H'
      try clear p2
      try clear c4
      try clear c6
      try clear c7
      obtain ⟨x28_1, rfl, HA, HK1, HO_26, HB⟩ := hrel
      cases gk with
      | zero => exact absurd HA.out (by simp [spec_PairThrowsUsed.l0])
      | succ k1 =>
        have H := HA.out
        clear HA
        simp only [spec_PairThrowsUsed.l0] at H
        by_cases c11 : x28_1 < (t1052.length : Int)
        · rw [if_pos c11] at H
          have c11b0 : decide (x28_1 < (t1052.length : Int)) = true := decide_eq_true c11
          clear c11
          by_cases c12 : 0 ≤ x28_1
          · rw [if_pos c12] at H
            have c12b0 : decide (0 ≤ x28_1) = true := decide_eq_true c12
            clear c12
            by_cases c13 : x28_1 < (t1052.length : Int)
            · rw [if_pos c13] at H
              have c13b0 : decide (x28_1 < (t1052.length : Int)) = true := decide_eq_true c13
              clear c13
              by_cases c14 : 0 < ((rd_L7 t1052 x28_1).length : Int)
              · rw [if_pos c14] at H
                have c14b0 : decide (0 < ((rd_L7 t1052 x28_1).length : Int)) = true := decide_eq_true c14
                have c14b1 : decide (0 < (rd_L7 t1052 x28_1).length) = true := decide_eq_true (by omega)
                clear c14
                by_cases c15 : 1 < ((rd_L7 t1052 x28_1).length : Int)
                · rw [if_pos c15] at H
                  have c15b0 : decide (1 < ((rd_L7 t1052 x28_1).length : Int)) = true := decide_eq_true c15
                  have c15b1 : decide (1 < (rd_L7 t1052 x28_1).length) = true := decide_eq_true (by omega)
                  clear c15
                  by_cases c16 : (wrap64 ((rd (rd_L7 t1052 x28_1) 0) + (rd (rd_L7 t1052 x28_1) 1))) = (wrap64 (2 * a0))
                  · rw [if_pos c16] at H
                    have c16b0 : ((wrap64 ((rd (rd_L7 t1052 x28_1) 0) + (rd (rd_L7 t1052 x28_1) 1))) == (wrap64 (2 * a0))) = true := beq_iff_eq.mpr c16
                    have c16b1 : ((wrap64 ((rd (rd_L7 t1052 x28_1) 0) + (rd (rd_L7 t1052 x28_1) 1))) != (wrap64 (2 * a0))) = false := bne_eq_false_iff_eq.mpr c16
                    clear c16
                    simp only [Option.some.injEq, Prod.mk.injEq] at H
                    obtain ⟨rfl, rfl⟩ := H
                    have p1055 : 0 ≤ (x28_1 : Int) := of_decide_eq_true (by first | (with_reducible assumption) | assumption)
                    have q1055 : x28_1 < (t1052.length : Int) := of_decide_eq_true (by first | (with_reducible assumption) | assumption)
                    obtain ⟨ad1055, A1055_0, c1055_0, e1055, hx1055_0, hl1055_0, hi1055_0⟩ := at_L7 (Kd.N_reads' HO_26.out).2.2 x28_1 p1055 q1055
                    cases e1055
                    obtain ⟨ce1055, hce1055, hMe1055, hcc1055⟩ := Kd.N_get HO_26.out [] x28_1 p1055 (by first | exact q1055 | exact of_decide_eq_true (by first | (with_reducible assumption) | assumption) | (have e_ := (Kd.N_reads' HO_26.out).1; omega))
                    obtain ⟨ua1055_0, uc1055_0, rfl, ul1055_0, ge1055_0⟩ := Kd.FK_slice_open hMe1055
                    have hv1055_0 := hcc1055 0 _ rfl
                    rw [Nat.add_zero, show ((Kd.slice 3 (Kd.int .i64))).sz = 1 from rfl, Nat.mul_one] at hv1055_0
                    replace hv1055_0 := Option.some.inj (hv1055_0.symm.trans hx1055_0)
                    injection hv1055_0 with hva_ hvn_ hvc_
                    rw [hva_] at ge1055_0
                    rw [hvc_] at ul1055_0
                    have HL1055_0 := Aside0.mk (show Kd.V (Kd.int .i64) 3 _ w.heap.size _ _ (rd_L7 t1052 x28_1) from Kd.V_mk ul1055_0 ge1055_0)
                    clear hva_ hvn_ hvc_ ge1055_0 ul1055_0
                    clear hcc1055 hce1055
                    have HR1055_0 := Aside0.mk hi1055_0
                    have HC1055_0 := Aside0.mk hl1055_0
                    clear hi1055_0 hl1055_0
                    replace p1055 := eq_true p1055
                    replace q1055 := eq_true q1055
                    have p1056 : 0 ≤ (0 : Int) := (by omega)
                    have q1056 : 0 < ((rd_L7 t1052 x28_1).length : Int) := of_decide_eq_true (by first | (with_reducible assumption) | assumption)
                    obtain ⟨ad1056, e1056, hx1056_0⟩ := Kd.at_int (by repeat (first | (with_reducible exact HR1055_0.out) | (with_reducible refine Kd.C_alloc ?_ _) | (with_reducible refine Kd.C_drewN ?_ _) | (with_reducible refine Kd.C_drew ?_) | exact HR1055_0.out)) 0 p1056 q1056
                    cases e1056
                    have qi1056 : (0 < (rd_L7 t1052 x28_1).length) = True := eq_true (by omega)
                    (try rw [show ((0 : Int)).toNat = 0 from rfl] at hx1056_0)
                    (try rw [Addr.add_zero'] at hx1056_0)
                    replace p1056 := eq_true p1056
                    replace q1056 := eq_true q1056
                    have p1057 : 0 ≤ (1 : Int) := (by omega)
                    have q1057 : 1 < ((rd_L7 t1052 x28_1).length : Int) := of_decide_eq_true (by first | (with_reducible assumption) | assumption)
                    obtain ⟨ad1057, e1057, hx1057_0⟩ := Kd.at_int (by repeat (first | (with_reducible exact HR1055_0.out) | (with_reducible refine Kd.C_alloc ?_ _) | (with_reducible refine Kd.C_drewN ?_ _) | (with_reducible refine Kd.C_drew ?_) | exact HR1055_0.out)) 1 p1057 q1057
                    obtain rfl : ad1056 = ad1057 := (by injection e1057)
                    (try simp only [show (1 : Int).toNat = 1 from rfl, Nat.reduceMul, Nat.reduceEqDiff, Go.Addr.add, ↓reduceIte] at hx1057_0)
                    have qi1057 : (1 < (rd_L7 t1052 x28_1).length) = True := eq_true (by omega)
                    (try rw [show ((1 : Int)).toNat = 1 from rfl] at hx1057_0)
                    replace p1057 := eq_true p1057
                    replace q1057 := eq_true q1057
                    go_wp2
                    repeat (go_quiet (fail); try go_wp2)
                    go_ret2
                    exact ⟨by first | rfl | (simp [errW_none, errW_some] <;> rfl) | (simp [*, errW_none, errW_some] <;> rfl), by repeat (first | (with_reducible first | exact HB.out | apply below_alloc | apply pw_below_drewN | apply below_drew1) | exact HB.out)⟩
                  · rw [if_neg c16] at H
                    have c16b0 : ((wrap64 ((rd (rd_L7 t1052 x28_1) 0) + (rd (rd_L7 t1052 x28_1) 1))) == (wrap64 (2 * a0))) = false := beq_eq_false_iff_ne.mpr c16
                    have c16b1 : ((wrap64 ((rd (rd_L7 t1052 x28_1) 0) + (rd (rd_L7 t1052 x28_1) 1))) != (wrap64 (2 * a0))) = true := bne_iff_ne.mpr c16
                    have H' := Aside0.mk H
                    clear H
                    have p1055 : 0 ≤ (x28_1 : Int) := of_decide_eq_true (by first | (with_reducible assumption) | assumption)
                    have q1055 : x28_1 < (t1052.length : Int) := of_decide_eq_true (by first | (with_reducible assumption) | assumption)
                    obtain ⟨ad1055, A1055_0, c1055_0, e1055, hx1055_0, hl1055_0, hi1055_0⟩ := at_L7 (Kd.N_reads' HO_26.out).2.2 x28_1 p1055 q1055
                    cases e1055
                    obtain ⟨ce1055, hce1055, hMe1055, hcc1055⟩ := Kd.N_get HO_26.out [] x28_1 p1055 (by first | exact q1055 | exact of_decide_eq_true (by first | (with_reducible assumption) | assumption) | (have e_ := (Kd.N_reads' HO_26.out).1; omega))
                    obtain ⟨ua1055_0, uc1055_0, rfl, ul1055_0, ge1055_0⟩ := Kd.FK_slice_open hMe1055
                    have hv1055_0 := hcc1055 0 _ rfl
                    rw [Nat.add_zero, show ((Kd.slice 3 (Kd.int .i64))).sz = 1 from rfl, Nat.mul_one] at hv1055_0
                    replace hv1055_0 := Option.some.inj (hv1055_0.symm.trans hx1055_0)
                    injection hv1055_0 with hva_ hvn_ hvc_
                    rw [hva_] at ge1055_0
                    rw [hvc_] at ul1055_0
                    have HL1055_0 := Aside0.mk (show Kd.V (Kd.int .i64) 3 _ w.heap.size _ _ (rd_L7 t1052 x28_1) from Kd.V_mk ul1055_0 ge1055_0)
                    clear hva_ hvn_ hvc_ ge1055_0 ul1055_0
                    clear hcc1055 hce1055
                    have HR1055_0 := Aside0.mk hi1055_0
                    have HC1055_0 := Aside0.mk hl1055_0
                    clear hi1055_0 hl1055_0
                    replace p1055 := eq_true p1055
                    replace q1055 := eq_true q1055
                    have p1056 : 0 ≤ (0 : Int) := (by omega)
                    have q1056 : 0 < ((rd_L7 t1052 x28_1).length : Int) := of_decide_eq_true (by first | (with_reducible assumption) | assumption)
                    obtain ⟨ad1056, e1056, hx1056_0⟩ := Kd.at_int (by repeat (first | (with_reducible exact HR1055_0.out) | (with_reducible refine Kd.C_alloc ?_ _) | (with_reducible refine Kd.C_drewN ?_ _) | (with_reducible refine Kd.C_drew ?_) | exact HR1055_0.out)) 0 p1056 q1056
                    cases e1056
                    have qi1056 : (0 < (rd_L7 t1052 x28_1).length) = True := eq_true (by omega)
                    (try rw [show ((0 : Int)).toNat = 0 from rfl] at hx1056_0)
                    (try rw [Addr.add_zero'] at hx1056_0)
                    replace p1056 := eq_true p1056
                    replace q1056 := eq_true q1056
                    have p1057 : 0 ≤ (1 : Int) := (by omega)
                    have q1057 : 1 < ((rd_L7 t1052 x28_1).length : Int) := of_decide_eq_true (by first | (with_reducible assumption) | assumption)
                    obtain ⟨ad1057, e1057, hx1057_0⟩ := Kd.at_int (by repeat (first | (with_reducible exact HR1055_0.out) | (with_reducible refine Kd.C_alloc ?_ _) | (with_reducible refine Kd.C_drewN ?_ _) | (with_reducible refine Kd.C_drew ?_) | exact HR1055_0.out)) 1 p1057 q1057
                    obtain rfl : ad1056 = ad1057 := (by injection e1057)
                    (try simp only [show (1 : Int).toNat = 1 from rfl, Nat.reduceMul, Nat.reduceEqDiff, Go.Addr.add, ↓reduceIte] at hx1057_0)
                    have qi1057 : (1 < (rd_L7 t1052 x28_1).length) = True := eq_true (by omega)
                    (try rw [show ((1 : Int)).toNat = 1 from rfl] at hx1057_0)
                    replace p1057 := eq_true p1057
                    replace q1057 := eq_true q1057
                    go_wp2
                    repeat (go_quiet (fail); try go_wp2)
                    go_roundg k1
                    case measure => have := HK1.out; omega
                    case rel => exact ⟨(wrap64 (x28_1 + 1)), (by first | rfl | (simp; done) | (simp [*]; done)), H', ⟨by have := HK1.out; omega⟩, ⟨by (with_reducible repeat (first | apply Kd.N_alloc | apply Kd.N_drewN | apply Kd.N_drew)); exact HO_26.out⟩, ⟨by repeat (first | (with_reducible first | exact HB.out | apply below_alloc | apply pw_below_drewN | apply below_drew1) | exact HB.out)⟩⟩
                · rw [if_neg c15] at H
                  exact absurd H (by simp)
              · rw [if_neg c14] at H
                exact absurd H (by simp)
            · rw [if_neg c13] at H
              exact absurd H (by simp)
          · rw [if_neg c12] at H
            exact absurd H (by simp)
        · rw [if_neg c11] at H
          have c11b0 : decide (x28_1 < (t1052.length : Int)) = false := decide_eq_false c11
          clear c11
          simp only [Option.some.injEq, Prod.mk.injEq] at H
          obtain ⟨rfl, rfl⟩ := H
          go_wp2
          repeat (go_quiet (fail); try go_wp2)
          go_ret2
          exact ⟨by first | rfl | (simp [errW_none, errW_some] <;> rfl) | (simp [*, errW_none, errW_some] <;> rfl), by repeat (first | (with_reducible first | exact HB.out | apply below_alloc | apply pw_below_drewN | apply below_drew1) | exact HB.out)⟩
  · replace c7 := Bool.eq_false_iff.mpr c7
    subst c7
    have H1 : (some (0, false)) = some (r1, r2) := by rw [if_neg (show ¬ (false = true) by decide)] at H; exact H
    clear H
    have H := H1
    clear H1
    simp only [Option.some.injEq, Prod.mk.injEq] at H
    obtain ⟨rfl, rfl⟩ := H
    go_enter Try.func60, Try.ntmps60
    go_wp2_with (first | (go_at_call 196; (with_reducible refine (spec_oiThrows.calls k a0 a1 a2 a3 _ _ l4 false _ ?side1 ?side2 A6.out).mono ?_); (case side1 => repeat (first | exact HR4.out | (with_reducible refine Kd.C_alloc ?_ _) | (with_reducible refine Kd.C_drewN ?_ _) | (with_reducible refine Kd.C_drew ?_))); (case side2 => exact HC4.out); rintro e w' ⟨rfl, ⟨nd, rfl⟩⟩; (try first | exact ⟨rfl, _, World.drewN_drewN _ _ _⟩ | exact ⟨rfl, _, Eq.trans (World.drewN_drewN _ _ _) (congrArg (World.drewN _) (Nat.add_assoc _ _ _))⟩)))
    repeat (go_quiet (first | (go_at_call 196; (with_reducible refine (spec_oiThrows.calls k a0 a1 a2 a3 _ _ l4 false _ ?side1 ?side2 A6.out).mono ?_); (case side1 => repeat (first | exact HR4.out | (with_reducible refine Kd.C_alloc ?_ _) | (with_reducible refine Kd.C_drewN ?_ _) | (with_reducible refine Kd.C_drew ?_))); (case side2 => exact HC4.out); rintro e w' ⟨rfl, ⟨nd, rfl⟩⟩; (try first | exact ⟨rfl, _, World.drewN_drewN _ _ _⟩ | exact ⟨rfl, _, Eq.trans (World.drewN_drewN _ _ _) (congrArg (World.drewN _) (Nat.add_assoc _ _ _))⟩))); try go_wp2_with (first | (go_at_call 196; (with_reducible refine (spec_oiThrows.calls k a0 a1 a2 a3 _ _ l4 false _ ?side1 ?side2 A6.out).mono ?_); (case side1 => repeat (first | exact HR4.out | (with_reducible refine Kd.C_alloc ?_ _) | (with_reducible refine Kd.C_drewN ?_ _) | (with_reducible refine Kd.C_drew ?_))); (case side2 => exact HC4.out); rintro e w' ⟨rfl, ⟨nd, rfl⟩⟩; (try first | exact ⟨rfl, _, World.drewN_drewN _ _ _⟩ | exact ⟨rfl, _, Eq.trans (World.drewN_drewN _ _ _) (congrArg (World.drewN _) (Nat.add_assoc _ _ _))⟩))))
    go_ret2
    exact ⟨by first | rfl | (simp [errW_none, errW_some] <;> rfl) | (simp [*, errW_none, errW_some] <;> rfl), by repeat (first | (with_reducible first | exact HB.out | apply below_alloc | apply pw_below_drewN | apply below_drew1) | exact HB.out)⟩
end Go.Proofs.Ytgahigmpcgfbeaa.P
end

section
namespace Go.Proofs.Ytgahigmpcgfbeaa.P
open Go.RowKit Go.Proofs.YtgahigmpcgfbeaaW.PrintWords Go.Proofs.YtgahigmpcgfbeaaW.PrintLast Go.Proofs.YtgahigmpcgfbeaaW.PrintMore
attribute [local go_sem] max2_int min2_int max_two min_two max_three min_three max_four min_four
set_option linter.unusedVariables false
set_option linter.unusedSimpArgs false
def laws_toIntS.l0 : Nat → List Int → List Int → Int → Option (List Int)
  | 0, _, _, _ => none
  | k + 1, x0, x3, x4 => if x4 < (x0.length : Int) then (if 0 ≤ x4 then (if x4 < (x3.length : Int) then (laws_toIntS.l0 k x0 (x3.set (x4 : Int).toNat (rd x0 x4)) (wrap64 (x4 + 1))) else (none)) else (none)) else (some x3)
def laws_toIntS.f (k : Nat) (l0 : List Int) : Option (List Int) := if 0 ≤ (l0.length : Int) then (if ((l0.length : Int) : Int).toNat ≤ 35184372088832 then (laws_toIntS.l0 k l0 (List.replicate ((l0.length : Int) : Int).toNat 0) 0) else (none)) else (none)
theorem laws_toIntS.mono_l : ∀ k, (∀ y0 y1 y2, LeO (laws_toIntS.l0 k y0 y1 y2) (laws_toIntS.l0 (k + 1) y0 y1 y2))
  | 0 => fun _ _ _ r h => by simp [laws_toIntS.l0] at h
  | k + 1 => by
    have ih0 := laws_toIntS.mono_l k
    · intro y0 y1 y2
      unfold laws_toIntS.l0
      repeat' first
      | (with_reducible exact ih0 _ _ _)
      | (with_reducible exact LeO.refl _)
      | (with_reducible exact LeO.none _)
      | (with_reducible refine LeO.ite ?_ ?_)
      | (with_reducible refine LeO.bind ?_ (fun _ => ?_))
      | exact ih0 _ _ _
      | exact LeO.none _
      | refine LeO.ite ?_ ?_
      | refine LeO.bind ?_ (fun _ => ?_)
theorem laws_toIntS.mono : ∀ a0 k, LeO (laws_toIntS.f k a0) (laws_toIntS.f (k + 1) a0) := by
  intro a0 k
  have ih0 := laws_toIntS.mono_l k
  unfold laws_toIntS.f
  repeat' first
      | (with_reducible exact ih0 _ _ _)
      | (with_reducible exact LeO.refl _)
      | (with_reducible exact LeO.none _)
      | (with_reducible refine LeO.ite ?_ ?_)
      | (with_reducible refine LeO.bind ?_ (fun _ => ?_))
      | exact ih0 _ _ _
      | exact LeO.none _
      | refine LeO.ite ?_ ?_
      | refine LeO.bind ?_ (fun _ => ?_)
set_option maxHeartbeats 8000000 in
set_option maxRecDepth 100000 in
theorem laws_toIntS.calls (k : Nat) (A0 : Option Addr) (c0 : Nat) (l0 : List Int) (r : List Int) (w : World) (hr0 : Kd.C (Kd.int .i64) w A0 l0.length l0) (hc0 : l0.length ≤ c0) (h : laws_toIntS.f k l0 = some r) :
    Calls Try.prog 61 #[.slice A0 l0.length c0] w fun e w' => ∃ v0_ : Value, e = .returned (v0_) ∧ Kd.R (Kd.int .i64) 3 w' w.heap.size (fun _ => True) v0_ r ∧ Below w.heap.size w w' := by
  have HR0 := Aside0.mk hr0
  have HC0 := Aside0.mk hc0
  clear hr0 hc0
  have HB := Aside0.mk (Below.refl w.heap.size w)
  have H : (if 0 ≤ (l0.length : Int) then (if ((l0.length : Int) : Int).toNat ≤ 35184372088832 then (laws_toIntS.l0 k l0 (List.replicate ((l0.length : Int) : Int).toNat 0) 0) else (none)) else (none)) = some r := h
  clear h
  by_cases c2 : 0 ≤ (l0.length : Int)
  · rw [if_pos c2] at H
    have c2b0 := eq_true c2
    have c2b1 : decide (0 ≤ (l0.length : Int)) = true := decide_eq_true c2
    clear c2
    by_cases c3 : ((l0.length : Int) : Int).toNat ≤ 35184372088832
    · rw [if_pos c3] at H
      have c3b0 := eq_true c3
      have c3b1 : decide (((l0.length : Int) : Int).toNat ≤ 35184372088832) = true := decide_eq_true c3
      clear c3
      obtain ⟨y1058, hy1058⟩ : ∃ y_ : List Int, y_ = (List.replicate ((l0.length : Int) : Int).toNat 0) := ⟨_, rfl⟩
      replace H : (laws_toIntS.l0 k l0 y1058 0) = some r := by first | (rw [hy1058]; with_reducible exact H) | (have H2_ := (Option.bind_some _ _).symm.trans H; rw [hy1058]; with_reducible exact H2_) | (have H2_ := (Option.bind_some _ _).symm.trans H; with_reducible exact H2_) | with_reducible exact H | (rw [hy1058]; exact H) | exact H
      have Ny1058 := Aside0.mk hy1058
      clear hy1058
      have H' := Aside0.mk H
      clear H
      go_enter Try.func61, Try.ntmps61
      go_wp2_with (first | ((with_reducible refine gate_dst (N := 7) rfl ?_); refine Kd.R_make (Kd.int .i64) _ 3 rfl (N := 7) rfl 26 _ _ rfl (l0.length : Int) rfl rfl Try.underlying26 (.int .i64 0) 8 info3 rfl (by decide) (by omega) 0 (ok := fun _ => True) (okp := fun _ => True) rfl (fun _ hk => hk) trivial (of_decide_eq_true (by first | (with_reducible assumption) | assumption)) (Nat.le_trans (Nat.mul_le_mul_right _ (of_decide_eq_true (by first | (with_reducible assumption) | assumption) : (l0.length : Int).toNat ≤ 35184372088832)) (by omega)) (Below.refl _ _) (Nat.le_refl _) ?_; intro v1059 w4 ho5 hb hg_ hnew_; clear hg_ hnew_; (first | rw [← Ny1058.out] at ho5 | (simp only [Int.reduceToNat] at ho5; rw [← Ny1058.out] at ho5)); have n0_ := Aside0.mk (Kd.R_lower ho5 (below_size (by repeat (first | (with_reducible first | exact HB.out | apply below_alloc | apply pw_below_drewN | apply below_drew1) | exact HB.out)))); have n1_ := Aside0.mk (below_step (by repeat (first | (with_reducible first | exact HB.out | apply below_alloc | apply pw_below_drewN | apply below_drew1) | exact HB.out)) hb); clear HB; have HO1060 := n0_; have HB := n1_; clear n0_ n1_; clear hb ho5))
      go_loopg [4] k (fun kq v4 w' => ∃ (x3_1 : List Int) (x4_1 : Int), v4 = .int .i64 x4_1 ∧ Aside0 (laws_toIntS.l0 kq l0 x3_1 x4_1 = some r) ∧ Aside0 (kq ≤ k) ∧ Aside0 (Kd.R (Kd.int .i64) 3 w' w.heap.size (fun _ => True) v1059 x3_1) ∧ Aside0 (Below w.heap.size w w'))
      case atStart => exact ⟨(y1058), (0), (by first | rfl | (simp; done) | (simp [*]; done)), H', ⟨Nat.le_refl _⟩, ⟨by (with_reducible repeat (first | apply Kd.R_alloc | apply Kd.R_drewN | apply Kd.R_drew)); exact HO1060.out⟩, ⟨by repeat (first | (with_reducible first | exact HB.out | apply below_alloc | apply pw_below_drewN | apply below_drew1) | exact HB.out)⟩⟩
      case round =>
        clear H'
        try clear c2
        try clear c2b0
        try clear c2b1
        try clear p2
        try clear c3
        try clear c3b0
        try clear c3b1
        obtain ⟨x3_1, x4_1, rfl, HA, HK1, HO_3, HB⟩ := hrel
        cases gk with
        | zero => exact absurd HA.out (by simp [laws_toIntS.l0])
        | succ k1 =>
          have H := HA.out
          clear HA
          simp only [laws_toIntS.l0] at H
          by_cases c6 : x4_1 < (l0.length : Int)
          · rw [if_pos c6] at H
            have c6b0 : decide (x4_1 < (l0.length : Int)) = true := decide_eq_true c6
            clear c6
            by_cases c7 : 0 ≤ x4_1
            · rw [if_pos c7] at H
              have c7b0 : decide (0 ≤ x4_1) = true := decide_eq_true c7
              clear c7
              by_cases c8 : x4_1 < (x3_1.length : Int)
              · rw [if_pos c8] at H
                have c8b0 : decide (x4_1 < (x3_1.length : Int)) = true := decide_eq_true c8
                clear c8
                obtain ⟨y1062, hy1062⟩ : ∃ y_ : List Int, y_ = (x3_1.set (x4_1 : Int).toNat (rd l0 x4_1)) := ⟨_, rfl⟩
                replace H : (laws_toIntS.l0 k1 l0 y1062 (wrap64 (x4_1 + 1))) = some r := by first | (rw [hy1062]; with_reducible exact H) | (have H2_ := (Option.bind_some _ _).symm.trans H; rw [hy1062]; with_reducible exact H2_) | (have H2_ := (Option.bind_some _ _).symm.trans H; with_reducible exact H2_) | with_reducible exact H | (rw [hy1062]; exact H) | exact H
                have Ny1062 := Aside0.mk hy1062
                clear hy1062
                have H' := Aside0.mk H
                clear H
                have p1061 : 0 ≤ (x4_1 : Int) := of_decide_eq_true (by first | (with_reducible assumption) | assumption)
                have q1061 : x4_1 < (l0.length : Int) := of_decide_eq_true (by first | (with_reducible assumption) | assumption)
                obtain ⟨ad1061, e1061, hx1061_0⟩ := Kd.at_int HR0.out x4_1 p1061 q1061
                cases e1061
                replace hx1061_0 := (HB.out.cell (World.block_lt_of_cell? w _ hx1061_0)).trans hx1061_0
                replace p1061 := eq_true p1061
                replace q1061 := eq_true q1061
                have p9 : 0 ≤ (x4_1 : Int) := of_decide_eq_true (by first | (with_reducible assumption) | assumption)
                have q9 : (x4_1 : Int) < ((x3_1.length : Int) : Int) := of_decide_eq_true (by first | (with_reducible assumption) | assumption)
                obtain ⟨go9, co9, eo9, gb9, gl9, cl9, HG9⟩ := Kd.R_form HO_3.out (by omega)
                (first | cases eo9 | (injection eo9 with ea_ en_ ec_; (first | subst ea_ | (injection ea_ with ea_; subst ea_)); subst ec_; clear en_))
                have GB9 := Aside0.mk gb9
                have GG9 := Aside0.mk HG9
                clear gb9 gl9 HG9
                obtain ⟨hx9_0, hf9_0⟩ := Kd.R_celln 0 HO_3.out (x4_1 : Int) p9 q9
                replace p9 := eq_true p9
                replace q9 := eq_true q9
                have HP10 := Kd.R_putg HO_3.out (x4_1 : Int) (rd l0 x4_1)
                go_wp2_with (first | ((with_reducible refine gate_store (t := 3) (p := 20) rfl ?_); refine store_event (t := 3) (p := 20) (v := ?vo_w11) (w1 := (wr.setCell ⟨go9, (x4_1 : Int).toNat, none⟩ (.int .i64 (rd l0 x4_1)))) ?hg ?ho ?hn ?hr ?_; (case ho => rfl); (case hg => rfl); (case hn => rfl); (case hr => first | (go_simp; done) | (go_simp; rfl)); intro w11 hw; have hg : wr.grownBy w11 (some go9) := (by rw [hw]; exact HP10.2); have hp_ : Kd.R (Kd.int .i64) 3 w11 w.heap.size (fun _ => True) (.slice (some ⟨go9, 0, none⟩) x3_1.length co9) y1062 := (by rw [hw, Ny1062.out]; exact HP10.1); clear HP10; have n0_ := Aside0.mk (hp_); have n1_ := Aside0.mk ((by rw [hw]; exact below_set (HB.out) GB9.out : Below w.heap.size w w11)); clear HO_3; clear HB; have HO_3 := n0_; have HB := n1_; clear n0_ n1_; clear hg hw hp_))
                go_roundg k1
                case measure => have := HK1.out; omega
                case rel => exact ⟨(y1062), (wrap64 (x4_1 + 1)), (by first | rfl | (simp; done) | (simp [*]; done)), H', ⟨by have := HK1.out; omega⟩, ⟨by (with_reducible repeat (first | apply Kd.R_alloc | apply Kd.R_drewN | apply Kd.R_drew)); exact HO_3.out⟩, ⟨by repeat (first | (with_reducible first | exact HB.out | apply below_alloc | apply pw_below_drewN | apply below_drew1) | exact HB.out)⟩⟩
              · rw [if_neg c8] at H
                exact absurd H (by simp)
            · rw [if_neg c7] at H
              exact absurd H (by simp)
          · rw [if_neg c6] at H
            have c6b0 : decide (x4_1 < (l0.length : Int)) = false := decide_eq_false c6
            clear c6
            obtain rfl := Option.some.inj H
            go_wp2
            go_ret
            exact ⟨_, by first | rfl | (simp [errW_none, errW_some] <;> rfl) | (simp [*, errW_none, errW_some] <;> rfl), by (with_reducible repeat (first | apply Kd.R_alloc | apply Kd.R_drewN | apply Kd.R_drew)); exact HO_3.out, by repeat (first | (with_reducible first | exact HB.out | apply below_alloc | apply pw_below_drewN | apply below_drew1) | exact HB.out)⟩
    · rw [if_neg c3] at H
      exact absurd H (by simp)
  · rw [if_neg c2] at H
    exact absurd H (by simp)
end Go.Proofs.Ytgahigmpcgfbeaa.P
end

section
namespace Go.Proofs.Ytgahigmpcgfbeaa.P
open Go.RowKit Go.Proofs.YtgahigmpcgfbeaaW.PrintWords Go.Proofs.YtgahigmpcgfbeaaW.PrintLast Go.Proofs.YtgahigmpcgfbeaaW.PrintMore
attribute [local go_sem] max2_int min2_int max_two min_two max_three min_three max_four min_four
set_option linter.unusedVariables false
set_option linter.unusedSimpArgs false
def jmp : List S126 → Int → Int × Bool
  | [], n => (n, false)
  | j :: l, n => if j.f0 = n then (j.f1, true) else jmp l n
def impl_Board_begins.f (_ _ _ : Int) (l : List S126) (n : Int) : Option (Int × Bool) := some (jmp l n)
theorem bT {w W W2 : World} (h : Below w.heap.size w W) (k : Below W.heap.size W W2) : Below w.heap.size w W2 := h.trans (k.mono h.size)
theorem rdJ {w wr : World} {A : Option Addr} {n k : Nat} {l : List S126} (h : Kd.C k126 w A n l) (hb : Below w.heap.size w wr) (hk : k < l.length) :
    ∃ ad, A = some ad ∧ wr.cell? (ad.add (k * 2)) = some (.int .i64 l[k].f0) ∧ wr.cell? ⟨(ad.add (k * 2)).block, (ad.add (k * 2)).off + 1, none⟩ = some (.int .i64 l[k].f1) := by
  obtain ⟨ad, e, h0, h1⟩ := at_T126 h k (by omega) (by have := h.1; omega)
  have hg : rd_T126 l k = l[k] := by simp [rd_T126, hk]
  rw [hg, Int.toNat_natCast] at h0 h1
  exact ⟨ad, e, (hb.cell (World.block_lt_of_cell? w _ h0)).trans h0, (hb.cell (World.block_lt_of_cell? w _ h1)).trans h1⟩
set_option maxHeartbeats 800000 in
theorem impl_Board_begins.calls (a0 a1 a2 : Int) (A : Option Addr) (c : Nat) (l : List S126) (n : Int) (r1 : Int) (r2 : Bool) (w : World) (hr : Kd.C k126 w A l.length l) (hc : l.length ≤ c) (h : impl_Board_begins.f a0 a1 a2 l n = some (r1, r2)) :
    Calls Try.prog 194 #[.agg #[.int .i64 a0, .int .i64 a1, .int .i64 a2, .slice A l.length c], .int .i64 n] w fun e w' => e = .returned (.tuple #[.int .i64 r1, .bool r2]) ∧ Below w.heap.size w w' := by
  have H : Aside0 (jmp l n = (r1, r2)) := ⟨by simpa [impl_Board_begins.f] using h⟩
  clear h
  have HR := Aside0.mk hr
  have hl : l.length ≤ 9223372036854775807 := hr.2.1
  clear hr
  go_enter Try.func194, Try.ntmps194
  go_wp2
  go_loopw [11] (fun v wr => ∃ k : Nat, v = .int .i64 k ∧ Aside0 (jmp (l.drop k) n = (r1, r2)) ∧ k ≤ l.length ∧ Aside0 (Below w.heap.size w wr)) (fun v _ => l.length - (intOf v).toNat)
  case atStart => exact ⟨0, rfl, H, by omega, ⟨(Below.refl _ _).alloc (Nat.le_refl _) _⟩⟩
  case round =>
    obtain ⟨k, rfl, HA, hk, HB⟩ := hrel
    by_cases hlt : k < l.length
    · obtain ⟨ad, rfl, h0, h1⟩ := rdJ HR.out HB.out hlt
      have HA := HA.out
      rw [List.drop_eq_getElem_cons hlt, jmp] at HA
      go_wp2
      · go_ret2
        rw [if_pos (by simpa using ‹(l[k].f0 == n) = true›)] at HA
        obtain ⟨rfl, rfl⟩ := Prod.mk.injEq _ _ _ _ ▸ HA
        exact ⟨rfl, HB.out.alloc HB.out.size _⟩
      · rw [if_neg (by simpa using ‹(l[k].f0 == n) = false›)] at HA
        exact ⟨⟨k + 1, by go_num, ⟨HA⟩, by omega, ⟨HB.out.alloc HB.out.size _⟩⟩, by simp [intOf]; omega⟩
    · go_wp2
      go_ret2
      obtain rfl : k = l.length := by omega
      have HA := HA.out
      simp [jmp] at HA
      obtain ⟨rfl, rfl⟩ := HA
      exact ⟨rfl, HB.out⟩
end Go.Proofs.Ytgahigmpcgfbeaa.P
end

section
namespace Go.Proofs.Ytgahigmpcgfbeaa.P
open Go.RowKit Go.Proofs.YtgahigmpcgfbeaaW.PrintWords Go.Proofs.YtgahigmpcgfbeaaW.PrintLast Go.Proofs.YtgahigmpcgfbeaaW.PrintMore
attribute [local go_sem] max2_int min2_int max_two min_two max_three min_three max_four min_four
set_option linter.unusedVariables false
set_option linter.unusedSimpArgs false
def impl_IsPair.f (a0 : Int) (a1 : Int) (a2 : Int) (a3 : Int) : Option (Bool) := (impl_within.f a0 1 6).bind fun t1063 => (if t1063 = true then ((impl_within.f a1 1 4).bind fun t1064 => (if t1064 = true then ((impl_within.f a2 0 a0).bind fun t1065 => (if t1065 = true then ((impl_within.f a3 0 a0).bind fun t1066 => (some t1066)) else (some false))) else (some false))) else (some false))
set_option maxHeartbeats 8000000 in
set_option maxRecDepth 100000 in
theorem impl_IsPair.calls (a0 : Int) (a1 : Int) (a2 : Int) (a3 : Int) (r : Bool) (w : World) (h : impl_IsPair.f a0 a1 a2 a3 = some r) :
    Calls Try.prog 124 #[.int .i64 a0, .int .i64 a1, .int .i64 a2, .int .i64 a3] w fun e w' => e = .returned (.bool r) ∧ Drawn0 w w' := by
  have H : ((impl_within.f a0 1 6).bind fun t1063 => (if t1063 = true then ((impl_within.f a1 1 4).bind fun t1064 => (if t1064 = true then ((impl_within.f a2 0 a0).bind fun t1065 => (if t1065 = true then ((impl_within.f a3 0 a0).bind fun t1066 => (some t1066)) else (some false))) else (some false))) else (some false))) = some r := h
  clear h
  replace H := Option.bind_eq_some_iff.mp H
  obtain ⟨t1063, A50, H⟩ := H
  replace H : (if t1063 = true then ((impl_within.f a1 1 4).bind fun t1064 => (if t1064 = true then ((impl_within.f a2 0 a0).bind fun t1065 => (if t1065 = true then ((impl_within.f a3 0 a0).bind fun t1066 => (some t1066)) else (some false))) else (some false))) else (some false)) = some r := H
  have A5 := Aside0.mk A50
  clear A50
  by_cases c6 : t1063 = true
  · subst c6
    have H1 : ((impl_within.f a1 1 4).bind fun t1064 => (if t1064 = true then ((impl_within.f a2 0 a0).bind fun t1065 => (if t1065 = true then ((impl_within.f a3 0 a0).bind fun t1066 => (some t1066)) else (some false))) else (some false))) = some r := by rw [if_pos rfl] at H; exact H
    clear H
    have H := H1
    clear H1
    replace H := Option.bind_eq_some_iff.mp H
    obtain ⟨t1064, A70, H⟩ := H
    replace H : (if t1064 = true then ((impl_within.f a2 0 a0).bind fun t1065 => (if t1065 = true then ((impl_within.f a3 0 a0).bind fun t1066 => (some t1066)) else (some false))) else (some false)) = some r := H
    have A7 := Aside0.mk A70
    clear A70
    by_cases c8 : t1064 = true
    · subst c8
      have H1 : ((impl_within.f a2 0 a0).bind fun t1065 => (if t1065 = true then ((impl_within.f a3 0 a0).bind fun t1066 => (some t1066)) else (some false))) = some r := by rw [if_pos rfl] at H; exact H
      clear H
      have H := H1
      clear H1
      replace H := Option.bind_eq_some_iff.mp H
      obtain ⟨t1065, A90, H⟩ := H
      replace H : (if t1065 = true then ((impl_within.f a3 0 a0).bind fun t1066 => (some t1066)) else (some false)) = some r := H
      have A9 := Aside0.mk A90
      clear A90
      by_cases c10 : t1065 = true
      · subst c10
        have H1 : ((impl_within.f a3 0 a0).bind fun t1066 => (some t1066)) = some r := by rw [if_pos rfl] at H; exact H
        clear H
        have H := H1
        clear H1
        replace H := Option.bind_eq_some_iff.mp H
        obtain ⟨t1066, A110, H⟩ := H
        replace H : (some t1066) = some r := H
        have A11 := Aside0.mk A110
        clear A110
        obtain rfl := Option.some.inj H
        go_enter Try.func124, Try.ntmps124
        go_wp2_with (first | ((with_reducible refine gate_callee (f := 176) rfl ?_); refine goesL_ (some 10) rfl rfl Try.func176 (by kernel_rfl) rfl #[.int .i64 a0, .int .i64 1, .int .i64 6] rfl (by (try simp only [List.map_toArray, List.map_cons, List.map_nil]); first | done | rfl | (simp only [List.length_drop, List.length_take]; rfl)) ?_; (with_reducible refine (impl_within.calls a0 1 6 true _ A5.out).mono ?_); rintro e w' ⟨rfl, ⟨nd, rfl⟩⟩; refine ⟨_, rfl, ?_⟩) | (go_at_call 176; (with_reducible refine (impl_within.calls a1 1 4 true _ A7.out).mono ?_); rintro e w' ⟨rfl, ⟨nd, rfl⟩⟩) | (go_at_call 176; (with_reducible refine (impl_within.calls a2 0 a0 true _ A9.out).mono ?_); rintro e w' ⟨rfl, ⟨nd, rfl⟩⟩) | (go_at_call 176; (with_reducible refine (impl_within.calls a3 0 a0 t1066 _ A11.out).mono ?_); rintro e w' ⟨rfl, ⟨nd, rfl⟩⟩))
        go_ret
        exact ⟨by first | rfl | (simp; done) | (simp [*]; done), by repeat (first | exact Drawn0.refl _ | apply Drawn0.step)⟩
      · replace c10 := Bool.eq_false_iff.mpr c10
        subst c10
        have H1 : (some false) = some r := by rw [if_neg (show ¬ (false = true) by decide)] at H; exact H
        clear H
        have H := H1
        clear H1
        obtain rfl := Option.some.inj H
        go_enter Try.func124, Try.ntmps124
        go_wp2_with (first | ((with_reducible refine gate_callee (f := 176) rfl ?_); refine goesL_ (some 10) rfl rfl Try.func176 (by kernel_rfl) rfl #[.int .i64 a0, .int .i64 1, .int .i64 6] rfl (by (try simp only [List.map_toArray, List.map_cons, List.map_nil]); first | done | rfl | (simp only [List.length_drop, List.length_take]; rfl)) ?_; (with_reducible refine (impl_within.calls a0 1 6 true _ A5.out).mono ?_); rintro e w' ⟨rfl, ⟨nd, rfl⟩⟩; refine ⟨_, rfl, ?_⟩) | (go_at_call 176; (with_reducible refine (impl_within.calls a1 1 4 true _ A7.out).mono ?_); rintro e w' ⟨rfl, ⟨nd, rfl⟩⟩) | (go_at_call 176; (with_reducible refine (impl_within.calls a2 0 a0 false _ A9.out).mono ?_); rintro e w' ⟨rfl, ⟨nd, rfl⟩⟩))
        go_ret
        exact ⟨by first | rfl | (simp; done) | (simp [*]; done), by repeat (first | exact Drawn0.refl _ | apply Drawn0.step)⟩
    · replace c8 := Bool.eq_false_iff.mpr c8
      subst c8
      have H1 : (some false) = some r := by rw [if_neg (show ¬ (false = true) by decide)] at H; exact H
      clear H
      have H := H1
      clear H1
      obtain rfl := Option.some.inj H
      go_enter Try.func124, Try.ntmps124
      go_wp2_with (first | ((with_reducible refine gate_callee (f := 176) rfl ?_); refine goesL_ (some 10) rfl rfl Try.func176 (by kernel_rfl) rfl #[.int .i64 a0, .int .i64 1, .int .i64 6] rfl (by (try simp only [List.map_toArray, List.map_cons, List.map_nil]); first | done | rfl | (simp only [List.length_drop, List.length_take]; rfl)) ?_; (with_reducible refine (impl_within.calls a0 1 6 true _ A5.out).mono ?_); rintro e w' ⟨rfl, ⟨nd, rfl⟩⟩; refine ⟨_, rfl, ?_⟩) | (go_at_call 176; (with_reducible refine (impl_within.calls a1 1 4 false _ A7.out).mono ?_); rintro e w' ⟨rfl, ⟨nd, rfl⟩⟩))
      go_ret
      exact ⟨by first | rfl | (simp; done) | (simp [*]; done), by repeat (first | exact Drawn0.refl _ | apply Drawn0.step)⟩
  · replace c6 := Bool.eq_false_iff.mpr c6
    subst c6
    have H1 : (some false) = some r := by rw [if_neg (show ¬ (false = true) by decide)] at H; exact H
    clear H
    have H := H1
    clear H1
    obtain rfl := Option.some.inj H
    go_enter Try.func124, Try.ntmps124
    go_wp2_with (first | ((with_reducible refine gate_callee (f := 176) rfl ?_); refine goesL_ (some 10) rfl rfl Try.func176 (by kernel_rfl) rfl #[.int .i64 a0, .int .i64 1, .int .i64 6] rfl (by (try simp only [List.map_toArray, List.map_cons, List.map_nil]); first | done | rfl | (simp only [List.length_drop, List.length_take]; rfl)) ?_; (with_reducible refine (impl_within.calls a0 1 6 false _ A5.out).mono ?_); rintro e w' ⟨rfl, ⟨nd, rfl⟩⟩; refine ⟨_, rfl, ?_⟩))
    go_ret
    exact ⟨by first | rfl | (simp; done) | (simp [*]; done), by repeat (first | exact Drawn0.refl _ | apply Drawn0.step)⟩
end Go.Proofs.Ytgahigmpcgfbeaa.P
end

section
namespace Go.Proofs.Ytgahigmpcgfbeaa.P
set_option linter.unusedVariables false
set_option linter.unusedSimpArgs false
open Go Go.RowKit Go.Proofs.YtgahigmpcgfbeaaW.PrintWords Go.Proofs.YtgahigmpcgfbeaaW.PrintLast Go.Proofs.YtgahigmpcgfbeaaW.PrintMore
structure Bx (B b : Nat) (w w' : World) : Prop where
  os : w'.os = w.os
  tape : w'.tape = w.tape
  output : w'.output = w.output
  size : w.heap.size ≤ w'.heap.size
  block : ∀ k, k < B → k ≠ b → w'.heap[k]? = w.heap[k]?
theorem Bx.refl (B b : Nat) (w : World) : Bx B b w w := ⟨rfl, rfl, rfl, Nat.le_refl _, fun _ _ _ => rfl⟩
theorem Bx.trans {B b : Nat} {w1 w2 w3 : World} (h : Bx B b w1 w2) (k : Bx B b w2 w3) : Bx B b w1 w3 :=
  ⟨k.os.trans h.os, k.tape.trans h.tape, k.output.trans h.output, Nat.le_trans h.size k.size, fun i hi hb => (k.block i hi hb).trans (h.block i hi hb)⟩
theorem Bx.mono {B B' b : Nat} {w w' : World} (h : Bx B b w w') (hB : B' ≤ B) : Bx B' b w w' := ⟨h.os, h.tape, h.output, h.size, fun k hk hb => h.block k (Nat.lt_of_lt_of_le hk hB) hb⟩
theorem bx_of {B b : Nat} {w w' : World} (h : Below B w w') : Bx B b w w' := ⟨h.os, h.tape, h.output, h.size, fun k hk _ => h.block k hk⟩
theorem Bx.below {B b : Nat} {w w' : World} (h : Bx B b w w') (hb : B ≤ b) : Below B w w' := ⟨h.os, h.tape, h.output, h.size, fun k hk => h.block k hk (by omega)⟩
theorem Bx.grown {B b : Nat} {w1 w w' : World} (h : Bx B b w1 w) (hg : w.grownBy w' (some b)) (hB : B ≤ w.heap.size) : Bx B b w1 w' :=
  h.trans ⟨hg.os, hg.tape, hg.output, hg.size, fun k hk hb => hg.block k (by omega) (fun e => hb (Option.some.inj e))⟩
theorem Bx.andB {b : Nat} {w W W2 : World} (h : Bx w.heap.size b w W) (k : Below W.heap.size W W2) : Bx w.heap.size b w W2 := h.trans (bx_of (k.mono h.size))
theorem Bx.next {b : Nat} {w W W2 : World} (h : Bx w.heap.size b w W) (k : Bx W.heap.size b W W2) : Bx w.heap.size b w W2 := h.trans (k.mono h.size)
theorem bx_alloc {b : Nat} {w W : World} (h : Bx w.heap.size b w W) (o : Obj) : Bx w.heap.size b w (W.alloc o) := h.andB ((Below.refl _ _).alloc (Nat.le_refl _) o)
theorem bx_drewN {B b : Nat} {w W : World} (h : Bx B b w W) (n : Nat) : Bx B b w (W.drewN n) := ⟨h.os, h.tape, h.output, h.size, h.block⟩
theorem bx_drew {B b : Nat} {w W : World} (h : Bx B b w W) : Bx B b w W.drew := ⟨h.os, h.tape, h.output, h.size, h.block⟩
theorem bx_set {B b : Nat} {w W : World} (h : Bx B b w W) {p : Addr} (hp : B ≤ p.block) (u : Value) : Bx B b w (W.setCell p u) :=
  h.trans ⟨rfl, rfl, rfl, by simp [World.setCell], fun k hk _ => Below.heap_setCell _ _ _ _ (by omega)⟩
theorem blk_bx {w w1 : World} {g b : Nat} {o : Obj} (h : w.heap[g]? = some o) (hb : Bx w.heap.size b w w1) (hne : g ≠ b) : w1.heap[g]? = some o := (hb.block g (blk_lt h) hne).trans h
theorem store_func {P : Program} (g : Fn) (fi ca : Array Value) (a : Addr) (m : Mode) (w : World) : (store a (.func g fi ca) m).run P w = stored P w a (.func g fi ca) m := run_store P w a _ m rfl
def anyR (_ : Value) : Option (DataW Unit × List MemPlace) := some (.nil, [])
def memo (P : Program) (k : TypeId) (F : Value → Value → Prop) (L : List Value) (b : Nat) (w : World) : Prop :=
  ∃ es clock, w.heap[b]? = some (.map es clock) ∧ WideElems.Fit P k anyR es clock ∧ ∀ x ∈ es.toList, F x.key x.val ∧ x.key ∈ L
theorem nodup_le {α : Type} [DecidableEq α] : ∀ {l L : List α}, l.Nodup → (∀ x ∈ l, x ∈ L) → l.length ≤ L.length
  | [], _, _, _ => Nat.zero_le _
  | x :: r, L, hn, hs => by
    obtain ⟨h1, h2⟩ := List.nodup_cons.1 hn
    have hx := hs x (by simp)
    have := nodup_le (L := L.erase x) h2 (fun y hy => (List.mem_erase_of_ne (fun e => h1 (by rw [← e]; exact hy))).2 (hs y (by simp [hy])))
    rw [List.length_erase_of_mem hx] at this
    have := List.length_pos_of_mem hx
    simp only [List.length_cons]
    omega
section
variable {P : Program} {k : TypeId} {F : Value → Value → Prop} {L : List Value} {b : Nat} {w : World}
theorem memo.lt (h : memo P k F L b w) : b < w.heap.size := by
  obtain ⟨es, clock, hb, _⟩ := h
  exact (Array.getElem?_eq_some_iff.1 hb).1
theorem memo_made (w : World) : memo P k F L w.heap.size (w.alloc (.map #[] 0)) :=
  ⟨#[], 0, (MapKept.heap_alloc w _).1, ⟨by simp, MapKept.stamped_empty 0, by simp⟩, by simp⟩
theorem memo.same (h : memo P k F L b w) {w' : World} (e : w'.heap[b]? = w.heap[b]?) : memo P k F L b w' := by
  obtain ⟨es, clock, hb, r⟩ := h
  exact ⟨es, clock, e.trans hb, r⟩
theorem memo.below (h : memo P k F L b w) {w' : World} (hb : Below w.heap.size w w') : memo P k F L b w' := h.same (hb.block b h.lt)
theorem memo.alloc (h : memo P k F L b w) (o : Obj) : memo P k F L b (w.alloc o) := h.below ((Below.refl _ _).alloc (Nat.le_refl _) o)
theorem memo.drewN (h : memo P k F L b w) (n : Nat) : memo P k F L b (w.drewN n) := h
theorem memo.drew (h : memo P k F L b w) : memo P k F L b w.drew := h
theorem memo.set (h : memo P k F L b w) {p : Addr} (hp : p.block ≠ b) (u : Value) : memo P k F L b (w.setCell p u) := h.same (Below.heap_setCell _ _ _ _ (fun e => hp e.symm))
theorem memo.look (h : memo P k F L b w) {t e : TypeId} (K : Go.Maps.Keyed P k) (ht : P.underlying t = some (.map k e)) {z : Value} (hz : (zeroValue e).run P w = .ok z w) {key : Value} {kl : Lit} (hkey : keyOf P k key = some kl) :
    (Instr.lookup t (.map (some b)) key true).run P w = .ok (.tuple #[z, .bool false]) w ∨ ∃ v, F key v ∧ (Instr.lookup t (.map (some b)) key true).run P w = .ok (.tuple #[v, .bool true]) w := by
  obtain ⟨es, clock, hb, hF, hg⟩ := h
  rcases Go.Maps.fit_look true K ht hz hb hF hkey with ⟨hrun, _⟩ | ⟨e0, y, hm, hk, hrun, _⟩
  · exact Or.inl hrun
  · exact Or.inr ⟨e0.val, hk ▸ (hg e0 hm).1, hrun⟩
theorem memo.put (h : memo P k F L b w) {t e : TypeId} (K : Go.Maps.Keyed P k) (ht : P.underlying t = some (.map k e)) (hL : L.length < maxLen) {key val : Value} {kl : Lit} (hkey : keyOf P k key = some kl) (hv : F key val) (hi : key ∈ L) :
    ∃ w', (Instr.mapUpdate t (.map (some b)) key val).run P w = .ok () w' ∧ memo P k F L b w' ∧ w.grownBy w' (some b) := by
  classical
  obtain ⟨es, clock, hb, hF, hg⟩ := h
  have hs : es.size < maxLen := by
    have := nodup_le (L := L) hF.stamped.2.2 (fun x hx => by
      obtain ⟨y, hy, rfl⟩ := List.mem_map.1 hx
      exact (hg y hy).2)
    simp at this
    omega
  obtain ⟨es', clock', hrun, hF', _, _, _, hall⟩ := Go.Maps.fit_store (R' := anyR) K ht hb hF hs (fun _ _ _ _ hz => hz) hkey (yv := (.nil, [])) rfl
  refine ⟨_, hrun, ⟨es', clock', ChangeMaps.heap_setBlock_same hb _, hF', fun x hx => ?_⟩, ⟨rfl, rfl, rfl, by simp [ChangeMaps.setBlock], fun i _ hi => ChangeMaps.heap_setBlock_other hb _ (fun e => hi (by rw [e]))⟩⟩
  rcases hall x hx with ⟨h1, _⟩ | ⟨h1, h2⟩
  · exact hg x h1
  · exact ⟨by rw [h1, h2]; exact hv, by rw [h1]; exact hi⟩
end
section
variable {P : Program} (w : World) {ops : Array Oper} {rest : List Oper} {o : Oper} {a : Act} {Q : Exit → Act → World → Prop}
theorem wpList_memo_look (hg : o.guard = none) (m x : Operand) (t : TypeId) (hop : o.op = Op.lookup t m x true)
    (k e : TypeId) (K : Go.Maps.Keyed P k) (ht : P.underlying t = some (.map k e)) {z : Value} (hz : (zeroValue e).run P w = .ok z w) (F : Value → Value → Prop) (L : List Value) (b : Nat)
    (hm : a.eval m = .map (some b)) (hown : memo P k F L b w) (key : Value) (kl : Lit) (hx : a.eval x = key) (hkey : keyOf P k key = some kl)
    (h0 : wpList P ops Q rest (a.put o.dst (.tuple #[z, .bool false])) w) (h1 : ∀ v, F key v → wpList P ops Q rest (a.put o.dst (.tuple #[v, .bool true])) w) :
    wpList P ops Q (o :: rest) a w := by
  refine wpList_plain hg fun K' hK' => ?_
  unfold Oper.wp
  rcases hown.look K ht hz hkey with hrun | ⟨v, hv, hrun⟩
  · simp [execOp, hop, hm, hx, hrun, Result.andThen]
    exact hK' _ _ h0
  · simp [execOp, hop, hm, hx, hrun, Result.andThen]
    exact hK' _ _ (h1 v hv)
theorem wpList_memo_put (hg : o.guard = none) (m x v : Operand) (t : TypeId) (hop : o.op = Op.mapUpdate t m x v)
    (k e : TypeId) (K : Go.Maps.Keyed P k) (ht : P.underlying t = some (.map k e)) (F : Value → Value → Prop) (L : List Value) (b : Nat) (hL : L.length < maxLen)
    (hm : a.eval m = .map (some b)) (hown : memo P k F L b w) (key val : Value) (kl : Lit) (hx : a.eval x = key) (hv : a.eval v = val) (hkey : keyOf P k key = some kl) (hF : F key val) (hi : key ∈ L)
    (hK : ∀ w', memo P k F L b w' → w.grownBy w' (some b) → wpList P ops Q rest (a.put o.dst undef) w') :
    wpList P ops Q (o :: rest) a w := by
  refine wpList_plain hg fun K' hK' => ?_
  obtain ⟨w', hrun, r1, r2⟩ := hown.put K ht hL hkey hF hi
  unfold Oper.wp
  simp [execOp, hop, hm, hx, hv, hrun, Result.andThen]
  exact hK' _ _ (hK w' r1 r2)
end
end Go.Proofs.Ytgahigmpcgfbeaa.P
end

section
namespace Go.Proofs.Ytgahigmpcgfbeaa.P
set_option linter.unusedVariables false
set_option linter.unusedSimpArgs false
open Go Go.RowKit Go.Proofs.YtgahigmpcgfbeaaW.PrintWords Go.Proofs.YtgahigmpcgfbeaaW.PrintLast Go.Proofs.YtgahigmpcgfbeaaW.PrintMore
abbrev tw (s f a b : Int) : Value := .agg #[.int .i64 s, .int .i64 f, .int .i64 a, .int .i64 b]
theorem tw_law : Go.Maps.Keyed Try.prog 133 := Go.Maps.Keyed.of_law (deep_law (m := 9) (by decide) (by kernel_rfl) (by kernel_rfl) (by simp [Try.underlying133]))
theorem tw_key (s f a b : Int) (hs : (Lit.int .i64 s).wf = true) (hf : (Lit.int .i64 f).wf = true) (ha : (Lit.int .i64 a).wf = true) (hb : (Lit.int .i64 b).wf = true) :
    ∃ l, keyOf Try.prog 133 (tw s f a b) = some l := by
  have c87 : Try.prog.cellsOf 133 = 4 := by kernel_rfl
  have c85 : Try.prog.cellsOf 131 = 2 := by kernel_rfl
  have c3 : Try.prog.cellsOf 3 = 1 := by kernel_rfl
  have hI : ∀ (n : Nat) (a : Int) (h : (Lit.int .i64 a).wf = true), Try.prog.keyLits (n + 1) 3 [.int .i64 a] = some [.int .i64 a] := fun n a h => by
    simp [Program.keyLits, Try.underlying3, h]
  have hA : ∀ n, Try.prog.keyLits (n + 2) 131 [.int .i64 a, .int .i64 b] = some [.int .i64 a, .int .i64 b] := fun n => by
    unfold Program.keyLits
    simp only [Try.underlying131]
    simp [c85, c3, hI, ha, hb, List.range, List.range.loop]
  have hS : ∀ n, Try.prog.keyLits (n + 3) 133 [.int .i64 s, .int .i64 f, .int .i64 a, .int .i64 b] = some [.int .i64 s, .int .i64 f, .int .i64 a, .int .i64 b] := fun n => by
    unfold Program.keyLits
    simp only [Try.underlying133]
    simp [c87, c85, c3, hI, hs, hf, hA]
  have hk : Try.prog.keyType 133 = true := by kernel_rfl
  have hv : (tw s f a b).formed Try.prog 133 = true := by kernel_rfl
  have hz : ∃ n, Try.prog.types.size + 1 = n + 3 := ⟨Try.prog.types.size - 2, by kernel_rfl⟩
  obtain ⟨n, hz⟩ := hz
  unfold keyOf
  simp only [Try.underlying133, hk, hv, hz, Value.cells, hS]
  simp
end Go.Proofs.Ytgahigmpcgfbeaa.P
end

section
namespace Go.Proofs.Ytgahigmpcgfbeaa.P
open Go.RowKit Go.Proofs.YtgahigmpcgfbeaaW.PrintWords Go.Proofs.YtgahigmpcgfbeaaW.PrintLast Go.Proofs.YtgahigmpcgfbeaaW.PrintMore
attribute [local go_sem] max2_int min2_int max_two min_two max_three min_three max_four min_four
set_option linter.unusedVariables false
set_option linter.unusedSimpArgs false
def impl_twins_isDone.f (s f a b : Int) : Option Bool := some (decide (a = s) && decide (b = s))
theorem twins_isDone (s f a b : Int) (w : World) :
    Calls Try.prog 290 #[tw s f a b] w fun e w' => e = .returned (.bool (decide (a = s) && decide (b = s))) ∧ Below w.heap.size w w' := by
  have HB : ∀ a b, Aside0 (Below w.heap.size w (w.alloc (.cells #[.int .i64 s, .int .i64 f, .int .i64 a, .int .i64 b] 133))) := fun a b => ⟨below_alloc (Below.refl w.heap.size w) _⟩
  by_cases ha : a = s
  · by_cases hb : b = s
    · go_enter Try.func290, Try.ntmps290
      go_wp2
      go_ret
      exact ⟨by simp [ha, hb], (HB _ _).out⟩
    · go_enter Try.func290, Try.ntmps290
      go_wp2
      go_ret
      exact ⟨by simp [ha, hb], (HB _ _).out⟩
  · go_enter Try.func290, Try.ntmps290
    go_wp2
    go_ret
    exact ⟨by simp [ha], (HB _ _).out⟩
theorem twins_isFace (s f a b x : Int) (w : World) :
    Calls Try.prog 203 #[tw s f a b, .int .i64 x] w fun e w' => e = .returned (.bool (inn x 1 f)) ∧ Below w.heap.size w w' := by
  have HB := Aside0.mk (below_alloc (Below.refl w.heap.size w) (.cells #[.int .i64 s, .int .i64 f, .int .i64 a, .int .i64 b] 133))
  go_enter Try.func203, Try.ntmps203
  go_wp2_with (go_at_call 176; refine (within_any _ _ _ _).mono ?_; rintro e w' ⟨rfl, rfl⟩)
  go_ret
  exact ⟨rfl, HB.out⟩
theorem twins_moved (s f a b x : Int) (k : Int) (hk : k = 0 ∨ k = 1) (h1 : -9223372036854775808 ≤ a + x) (h2 : a + x ≤ 9223372036854775807) (h3 : -9223372036854775808 ≤ b + x) (h4 : b + x ≤ 9223372036854775807) (w : World) :
    Calls Try.prog 252 #[tw s f a b, .int .i64 k, .int .i64 x] w fun e w' => e = .returned (tw s f (if k = 0 then a + x else a) (if k = 0 then b else b + x)) ∧ Below w.heap.size w w' := by
  have s1 : IntKind.i64.wrap (a + x) = a + x := IntWalk.i64_in _ (by omega)
  have s2 : IntKind.i64.wrap (b + x) = b + x := IntWalk.i64_in _ (by omega)
  rcases hk with rfl | rfl
  · have HB := Aside0.mk (below_alloc (below_alloc (Below.refl w.heap.size w) (.cells #[.int .i64 s, .int .i64 f, .int .i64 (a + x), .int .i64 b] 133)) (.cells #[.int .i64 s, .int .i64 f, .int .i64 (a + x), .int .i64 b] 133))
    go_enter Try.func252, Try.ntmps252
    go_wp2
    go_returns
    exact ⟨rfl, HB.out⟩
  · have HB := Aside0.mk (below_alloc (below_alloc (Below.refl w.heap.size w) (.cells #[.int .i64 s, .int .i64 f, .int .i64 a, .int .i64 (b + x)] 133)) (.cells #[.int .i64 s, .int .i64 f, .int .i64 a, .int .i64 (b + x)] 133))
    go_enter Try.func252, Try.ntmps252
    go_wp2
    go_returns
    exact ⟨rfl, HB.out⟩
theorem isPair_eq (s f a b : Int) : impl_IsPair.f s f a b = some (inn s 1 6 && inn f 1 4 && inn a 0 s && inn b 0 s) := by
  simp only [impl_IsPair.f, impl_within.f, Option.bind_some]
  cases inn s 1 6 <;> cases inn f 1 4 <;> cases inn a 0 s <;> cases inn b 0 s <;> rfl
theorem twins_of (s f a b : Int) (w : World) :
    Calls Try.prog 200 #[.int .i64 s, .int .i64 f, .int .i64 a, .int .i64 b] w fun e w' => e = .returned (.tuple #[tw s f a b, .bool (inn s 1 6 && inn f 1 4 && inn a 0 s && inn b 0 s)]) ∧ Below w.heap.size w w' := by
  go_enter Try.func200, Try.ntmps200
  go_wp2_with (go_at_call 124; refine (impl_IsPair.calls _ _ _ _ _ _ (isPair_eq s f a b)).mono ?_; rintro e w1 ⟨rfl, ⟨nd, rfl⟩⟩)
  go_returns
  exact ⟨rfl, by repeat (first | exact Below.refl _ _ | apply below_alloc | apply pw_below_drewN | (refine Below.setCell ?_ ?_ _; rotate_left; exact Nat.le_refl _))⟩
theorem twins_new (n : Nat) (fi ca : Array Value) (w : World) :
    Calls Try.prog 249 #[.func (.func n) fi ca] w fun e w' => e = .returned (.agg #[.func (.func n) fi ca, .map (some (w.heap.size + 1))]) ∧ w'.heap[w.heap.size + 1]? = some (.map #[] 0) ∧ Below w.heap.size w w' := by
  have hmm := @run_makeMap Try.prog
  have hsf := @store_func Try.prog (.func n) fi ca
  have HG := blk_alloc (blk_new w (.cells #[.nilFunc, .map none] 163)) (.map #[] 0)
  have y0 : ((w.alloc (.cells #[.nilFunc, .map none] 163)).alloc (.map #[] 0)).cell? ⟨w.heap.size, 0, none⟩ = some .nilFunc := (blk_cell HG 0).trans rfl
  have y1 : ((w.alloc (.cells #[.nilFunc, .map none] 163)).alloc (.map #[] 0)).cell? ⟨w.heap.size, 1, none⟩ = some (.map none) := (blk_cell HG 1).trans rfl
  have z0 := blk_frozen HG 0
  have z1 := blk_frozen HG 1
  clear HG
  go_enter Try.func249, Try.ntmps249
  go_wp2
  go_returns
  refine ⟨rfl, ?_, below_alloc (below_alloc (Below.refl _ _) _) _⟩
  have h := blk_new (w.alloc (.cells #[.func (.func n) fi ca, .map (some (w.heap.size + 1))] 163)) (.map #[] 0)
  rwa [World.size_alloc] at h
def mvs (s a b x : Int) : Nat → List Int
  | 0 => []
  | 1 => if a + x ≤ s then [0] else []
  | _ => (if a + x ≤ s then [0] else []) ++ (if b + x ≤ s then [1] else [])
set_option maxHeartbeats 1600000 in
set_option maxRecDepth 100000 in
theorem twins_moves (s f a b x : Int) (h1 : -9223372036854775808 ≤ a + x) (h2 : a + x ≤ 9223372036854775807) (h3 : -9223372036854775808 ≤ b + x) (h4 : b + x ≤ 9223372036854775807) (w : World) :
    Calls Try.prog 250 #[tw s f a b, .int .i64 x] w fun e w' => ∃ v0_ : Value, e = .returned (v0_) ∧ Kd.R (Kd.int .i64) 3 w' w.heap.size (fun _ => True) v0_ (mvs s a b x 2) ∧ Below w.heap.size w w' := by
  have s1 : IntKind.i64.wrap (a + x) = a + x := IntWalk.i64_in _ (by omega)
  have s2 : IntKind.i64.wrap (b + x) = b + x := IntWalk.i64_in _ (by omega)
  clear h1 h2 h3 h4
  have i0 : ∀ w : World, (Instr.index 131 (.agg #[.int .i64 a, .int .i64 b]) (.int .i64 0)).run Try.prog w = .ok (.int .i64 a) w := fun w => by kernel_rfl
  have i1 : ∀ w : World, (Instr.index 131 (.agg #[.int .i64 a, .int .i64 b]) (.int .i64 1)).run Try.prog w = .ok (.int .i64 b) w := fun w => by kernel_rfl
  have HB := Aside0.mk (below_alloc (Below.refl w.heap.size w) (.cells #[.int .i64 s, .int .i64 f, .int .i64 a, .int .i64 b] 133))
  have HG := Aside0.mk (blk_new w (.cells #[.int .i64 s, .int .i64 f, .int .i64 a, .int .i64 b] 133))
  go_enter Try.func250, Try.ntmps250
  go_wp2_with ((with_reducible refine gate_dst (N := 8) rfl ?_); refine Kd.R_lit (Kd.int .i64) _ 3 ?hg (N := 8) ?hd (xs := ([] : List Int)) (inner := []) (ok := fun _ => True) (okp := fun _ => True) ?hr ?hp (fun _ hk => hk) trivial (Below.refl _ _) (Nat.le_refl _) (by simp) ?_; (case hd => rfl); (case hg => rfl); (case hr => first | (go_simp; done) | (go_simp; rfl)); (case hp => exact (Reps.none _ _)); intro v8 w2 ho hb hg_ hnew_; clear hg_ hnew_; have n0_ := Aside0.mk (Kd.R_lower ho HB.out.size); have n1_ := Aside0.mk (blk_below HG.out hb); have n2_ := Aside0.mk (bT HB.out hb); clear HG HB hb ho; have HO := n0_; have HG := n1_; have HB := n2_; clear n0_ n1_ n2_; have y0 := (blk_cell HG.out 0).trans rfl; have y1 := (blk_cell HG.out 2).trans rfl; have y2 := (blk_cell HG.out 3).trans rfl)
  go_loopw [5, 11] (fun v5 v11 wr => ∃ k : Nat, v11 = .int .i64 k ∧ k ≤ 2 ∧ Aside0 (Kd.R (Kd.int .i64) 3 wr w.heap.size (fun _ => True) v5 (mvs s a b x k)) ∧ Aside0 (wr.heap[w.heap.size]? = some (.cells #[.int .i64 s, .int .i64 f, .int .i64 a, .int .i64 b] 133 (0, 0))) ∧ Aside0 (Below w.heap.size w wr)) (fun _ v _ => 2 - (intOf v).toNat)
  case atStart => exact ⟨0, rfl, by omega, HO, HG, HB⟩
  case round =>
    obtain ⟨k, rfl, hk, HO, HG, HB⟩ := hrel
    clear y0 y1 y2
    have y0 : wr.cell? ⟨w.heap.size, 0, none⟩ = some (.int .i64 s) := (blk_cell HG.out 0).trans rfl
    have y1 : wr.cell? ⟨w.heap.size, 2, none⟩ = some (.int .i64 a) := (blk_cell HG.out 2).trans rfl
    have y2 : wr.cell? ⟨w.heap.size, 3, none⟩ = some (.int .i64 b) := (blk_cell HG.out 3).trans rfl
    obtain rfl | rfl | rfl : k = 0 ∨ k = 1 ∨ k = 2 := by omega
    · by_cases c : a + x ≤ s
      · go_wp2_with ((with_reducible refine gate_builtin (b := .append) (xs := #[.tmp 21, .tmp 23]) rfl ?_); at_builtin; refine Kd.R_append (Kd.int .i64) (w0 := w) w.heap.size rfl (.tmp 21) (.tmp 23) 26 3 (.int .i64 0) 8 rfl Try.underlying26 info3 rfl (by decide) (by omega) u5 (mvs s a b x 0) 0 [.int .i64 0] (fun _ => True) (fun _ => False) rfl (by first | rfl | (go_simp; done) | (go_simp; rfl)) ?aP (fun _ hk => hk.elim) ?aF ?aO ?aB ?aS ?aL ?_; (case aP => exact rfl); (case aB => exact HB.out); (case aF => exact (fun _ _ => trivial)); (case aO => exact HO.out); (case aS => exact HB.out.size); (case aL => first | decide | (simp [mvs]; done)); intro v675 w11 ho hb hg hat; have n0_ := Aside0.mk (blk_grown HG.out hg (Kd.R_ne HO.out HG.out (by decide))); have n1_ := Aside0.mk hb; have n2_ := Aside0.mk ho; clear HG HB HO; have HG := n0_; have HB := n1_; have HO := n2_; clear n0_ n1_ n2_; clear ho hb hg hat)
        refine ⟨⟨1, rfl, by omega, ⟨?_⟩, HG, HB⟩, by simp [intOf]⟩
        have := HO.out
        simpa [mvs, c] using this
      · go_wp2
        refine ⟨⟨1, rfl, by omega, ⟨?_⟩, HG, HB⟩, by simp [intOf]⟩
        have := HO.out
        simpa [mvs, c] using this
    · by_cases c : b + x ≤ s
      · by_cases d : a + x ≤ s
        · have HO := Aside0.mk (show Kd.R (Kd.int .i64) 3 wr w.heap.size (fun _ => True) u5 ([0] : List Int) by have := HO.out; simpa [mvs, d] using this)
          go_wp2_with ((with_reducible refine gate_builtin (b := .append) (xs := #[.tmp 21, .tmp 23]) rfl ?_); at_builtin; refine Kd.R_append (Kd.int .i64) (w0 := w) w.heap.size rfl (.tmp 21) (.tmp 23) 26 3 (.int .i64 0) 8 rfl Try.underlying26 info3 rfl (by decide) (by omega) u5 ([0] : List Int) 1 [.int .i64 1] (fun _ => True) (fun _ => False) rfl (by first | rfl | (go_simp; done) | (go_simp; rfl)) ?aP (fun _ hk => hk.elim) ?aF ?aO ?aB ?aS ?aL ?_; (case aP => exact rfl); (case aB => exact HB.out); (case aF => exact (fun _ _ => trivial)); (case aO => exact HO.out); (case aS => exact HB.out.size); (case aL => first | decide | (simp [mvs]; done)); intro v675 w11 ho hb hg hat; have n0_ := Aside0.mk (blk_grown HG.out hg (Kd.R_ne HO.out HG.out (by decide))); have n1_ := Aside0.mk hb; have n2_ := Aside0.mk ho; clear HG HB HO; have HG := n0_; have HB := n1_; have HO := n2_; clear n0_ n1_ n2_; clear ho hb hg hat)
          refine ⟨⟨2, rfl, by omega, ⟨?_⟩, HG, HB⟩, by simp [intOf]⟩
          have := HO.out
          simpa [mvs, c, d] using this
        · have HO := Aside0.mk (show Kd.R (Kd.int .i64) 3 wr w.heap.size (fun _ => True) u5 ([] : List Int) by have := HO.out; simpa [mvs, d] using this)
          go_wp2_with ((with_reducible refine gate_builtin (b := .append) (xs := #[.tmp 21, .tmp 23]) rfl ?_); at_builtin; refine Kd.R_append (Kd.int .i64) (w0 := w) w.heap.size rfl (.tmp 21) (.tmp 23) 26 3 (.int .i64 0) 8 rfl Try.underlying26 info3 rfl (by decide) (by omega) u5 ([] : List Int) 1 [.int .i64 1] (fun _ => True) (fun _ => False) rfl (by first | rfl | (go_simp; done) | (go_simp; rfl)) ?aP (fun _ hk => hk.elim) ?aF ?aO ?aB ?aS ?aL ?_; (case aP => exact rfl); (case aB => exact HB.out); (case aF => exact (fun _ _ => trivial)); (case aO => exact HO.out); (case aS => exact HB.out.size); (case aL => first | decide | (simp [mvs]; done)); intro v675 w11 ho hb hg hat; have n0_ := Aside0.mk (blk_grown HG.out hg (Kd.R_ne HO.out HG.out (by decide))); have n1_ := Aside0.mk hb; have n2_ := Aside0.mk ho; clear HG HB HO; have HG := n0_; have HB := n1_; have HO := n2_; clear n0_ n1_ n2_; clear ho hb hg hat)
          refine ⟨⟨2, rfl, by omega, ⟨?_⟩, HG, HB⟩, by simp [intOf]⟩
          have := HO.out
          simpa [mvs, c, d] using this
      · go_wp2
        refine ⟨⟨2, rfl, by omega, ⟨?_⟩, HG, HB⟩, by simp [intOf]⟩
        have := HO.out
        simpa [mvs, c] using this
    · go_wp2
      go_ret
      exact ⟨_, rfl, HO.out, HB.out⟩
end Go.Proofs.Ytgahigmpcgfbeaa.P
end

section
namespace Go.Proofs.Ytgahigmpcgfbeaa.P
set_option linter.unusedVariables false
set_option linter.unusedSimpArgs false
def tb011 : List (Nat × Nat) := [(2, 1), (1, 1), (1, 1), (0, 1)]
def tb012 : List (Nat × Nat) := [(4, 1), (2, 1), (2, 1), (0, 1)]
def tb013 : List (Nat × Nat) := [(6, 1), (3, 1), (3, 1), (0, 1)]
def tb014 : List (Nat × Nat) := [(8, 1), (4, 1), (4, 1), (0, 1)]
def tb021 : List (Nat × Nat) := [(4, 1), (3, 1), (2, 1), (3, 1), (2, 1), (1, 1), (2, 1), (1, 1), (0, 1)]
def tb022 : List (Nat × Nat) := [(7, 2), (3, 1), (2, 1), (3, 1), (4, 1), (2, 1), (2, 1), (2, 1), (0, 1)]
def tb023 : List (Nat × Nat) := [(21, 4), (9, 2), (3, 1), (9, 2), (6, 1), (3, 1), (3, 1), (3, 1), (0, 1)]
def tb024 : List (Nat × Nat) := [(7, 1), (6, 1), (4, 1), (6, 1), (8, 1), (4, 1), (4, 1), (4, 1), (0, 1)]
def tb031 : List (Nat × Nat) := [(6, 1), (5, 1), (4, 1), (3, 1), (5, 1), (4, 1), (3, 1), (2, 1), (4, 1), (3, 1), (2, 1), (1, 1), (3, 1), (2, 1), (1, 1), (0, 1)]
def tb032 : List (Nat × Nat) := [(43, 8), (17, 4), (9, 2), (3, 1), (17, 4), (7, 2), (3, 1), (2, 1), (9, 2), (3, 1), (4, 1), (2, 1), (3, 1), (2, 1), (2, 1), (0, 1)]
def tb033 : List (Nat × Nat) := [(47, 9), (14, 3), (5, 1), (3, 1), (14, 3), (21, 4), (9, 2), (3, 1), (5, 1), (9, 2), (6, 1), (3, 1), (3, 1), (3, 1), (3, 1), (0, 1)]
def tb034 : List (Nat × Nat) := [(188, 27), (56, 9), (20, 3), (4, 1), (56, 9), (7, 1), (6, 1), (4, 1), (20, 3), (6, 1), (8, 1), (4, 1), (4, 1), (4, 1), (4, 1), (0, 1)]
def tb041 : List (Nat × Nat) := [(8, 1), (7, 1), (6, 1), (5, 1), (4, 1), (7, 1), (6, 1), (5, 1), (4, 1), (3, 1), (6, 1), (5, 1), (4, 1), (3, 1), (2, 1), (5, 1), (4, 1), (3, 1), (2, 1), (1, 1), (4, 1), (3, 1), (2, 1), (1, 1), (0, 1)]
def tb042 : List (Nat × Nat) := [(199, 32), (89, 16), (39, 8), (17, 4), (7, 2), (89, 16), (43, 8), (17, 4), (9, 2), (3, 1), (39, 8), (17, 4), (7, 2), (3, 1), (2, 1), (17, 4), (9, 2), (3, 1), (4, 1), (2, 1), (7, 2), (3, 1), (2, 1), (2, 1), (0, 1)]
def tb043 : List (Nat × Nat) := [(536, 81), (152, 27), (97, 18), (35, 6), (4, 1), (152, 27), (47, 9), (14, 3), (5, 1), (3, 1), (97, 18), (14, 3), (21, 4), (9, 2), (3, 1), (35, 6), (5, 1), (9, 2), (6, 1), (3, 1), (4, 1), (3, 1), (3, 1), (3, 1), (0, 1)]
def tb044 : List (Nat × Nat) := [(213, 32), (437, 72), (109, 18), (13, 2), (4, 1), (437, 72), (188, 27), (56, 9), (20, 3), (4, 1), (109, 18), (56, 9), (7, 1), (6, 1), (4, 1), (13, 2), (20, 3), (6, 1), (8, 1), (4, 1), (4, 1), (4, 1), (4, 1), (4, 1), (0, 1)]
def tb051 : List (Nat × Nat) := [(10, 1), (9, 1), (8, 1), (7, 1), (6, 1), (5, 1), (9, 1), (8, 1), (7, 1), (6, 1), (5, 1), (4, 1), (8, 1), (7, 1), (6, 1), (5, 1), (4, 1), (3, 1), (7, 1), (6, 1), (5, 1), (4, 1), (3, 1), (2, 1), (6, 1), (5, 1), (4, 1), (3, 1), (2, 1), (1, 1), (5, 1), (4, 1), (3, 1), (2, 1), (1, 1), (0, 1)]
def tb052 : List (Nat × Nat) := [(983, 128), (441, 64), (207, 32), (89, 16), (43, 8), (17, 4), (441, 64), (199, 32), (89, 16), (39, 8), (17, 4), (7, 2), (207, 32), (89, 16), (43, 8), (17, 4), (9, 2), (3, 1), (89, 16), (39, 8), (17, 4), (7, 2), (3, 1), (2, 1), (43, 8), (17, 4), (9, 2), (3, 1), (4, 1), (2, 1), (17, 4), (7, 2), (3, 1), (2, 1), (2, 1), (0, 1)]
def tb053 : List (Nat × Nat) := [(21137, 2916), (3253, 486), (491, 81), (647, 108), (101, 18), (13, 3), (3253, 486), (536, 81), (152, 27), (97, 18), (35, 6), (4, 1), (491, 81), (152, 27), (47, 9), (14, 3), (5, 1), (3, 1), (647, 108), (97, 18), (14, 3), (21, 4), (9, 2), (3, 1), (101, 18), (35, 6), (5, 1), (9, 2), (6, 1), (3, 1), (13, 3), (4, 1), (3, 1), (3, 1), (3, 1), (0, 1)]
def tb054 : List (Nat × Nat) := [(112495, 13824), (889, 128), (6199, 864), (505, 72), (89, 12), (5, 1), (889, 128), (213, 32), (437, 72), (109, 18), (13, 2), (4, 1), (6199, 864), (437, 72), (188, 27), (56, 9), (20, 3), (4, 1), (505, 72), (109, 18), (56, 9), (7, 1), (6, 1), (4, 1), (89, 12), (13, 2), (20, 3), (6, 1), (8, 1), (4, 1), (5, 1), (4, 1), (4, 1), (4, 1), (4, 1), (0, 1)]
def tb061 : List (Nat × Nat) := [(12, 1), (11, 1), (10, 1), (9, 1), (8, 1), (7, 1), (6, 1), (11, 1), (10, 1), (9, 1), (8, 1), (7, 1), (6, 1), (5, 1), (10, 1), (9, 1), (8, 1), (7, 1), (6, 1), (5, 1), (4, 1), (9, 1), (8, 1), (7, 1), (6, 1), (5, 1), (4, 1), (3, 1), (8, 1), (7, 1), (6, 1), (5, 1), (4, 1), (3, 1), (2, 1), (7, 1), (6, 1), (5, 1), (4, 1), (3, 1), (2, 1), (1, 1), (6, 1), (5, 1), (4, 1), (3, 1), (2, 1), (1, 1), (0, 1)]
def tb062 : List (Nat × Nat) := [(4551, 512), (2105, 256), (967, 128), (441, 64), (199, 32), (89, 16), (39, 8), (2105, 256), (983, 128), (441, 64), (207, 32), (89, 16), (43, 8), (17, 4), (967, 128), (441, 64), (199, 32), (89, 16), (39, 8), (17, 4), (7, 2), (441, 64), (207, 32), (89, 16), (43, 8), (17, 4), (9, 2), (3, 1), (199, 32), (89, 16), (39, 8), (17, 4), (7, 2), (3, 1), (2, 1), (89, 16), (43, 8), (17, 4), (9, 2), (3, 1), (4, 1), (2, 1), (39, 8), (17, 4), (7, 2), (3, 1), (2, 1), (2, 1), (0, 1)]
def tb063 : List (Nat × Nat) := [(52760, 6561), (66017, 8748), (20669, 2916), (1577, 243), (1991, 324), (335, 54), (43, 9), (66017, 8748), (21137, 2916), (3253, 486), (491, 81), (647, 108), (101, 18), (13, 3), (20669, 2916), (3253, 486), (536, 81), (152, 27), (97, 18), (35, 6), (4, 1), (1577, 243), (491, 81), (152, 27), (47, 9), (14, 3), (5, 1), (3, 1), (1991, 324), (647, 108), (97, 18), (14, 3), (21, 4), (9, 2), (3, 1), (335, 54), (101, 18), (35, 6), (5, 1), (9, 2), (6, 1), (3, 1), (43, 9), (13, 3), (4, 1), (3, 1), (3, 1), (3, 1), (0, 1)]
def tb064 : List (Nat × Nat) := [(1872983, 221184), (447403, 55296), (33317, 4608), (24811, 3456), (2123, 288), (341, 48), (21, 4), (447403, 55296), (112495, 13824), (889, 128), (6199, 864), (505, 72), (89, 12), (5, 1), (33317, 4608), (889, 128), (213, 32), (437, 72), (109, 18), (13, 2), (4, 1), (24811, 3456), (6199, 864), (437, 72), (188, 27), (56, 9), (20, 3), (4, 1), (2123, 288), (505, 72), (109, 18), (56, 9), (7, 1), (6, 1), (4, 1), (341, 48), (89, 12), (13, 2), (20, 3), (6, 1), (8, 1), (4, 1), (21, 4), (5, 1), (4, 1), (4, 1), (4, 1), (4, 1), (0, 1)]
def tb111 : List (Nat × Nat) := [(2, 1), (1, 1), (1, 1), (0, 1)]
def tb112 : List (Nat × Nat) := [(4, 1), (2, 1), (2, 1), (0, 1)]
def tb113 : List (Nat × Nat) := [(6, 1), (3, 1), (3, 1), (0, 1)]
def tb114 : List (Nat × Nat) := [(8, 1), (4, 1), (4, 1), (0, 1)]
def tb121 : List (Nat × Nat) := [(4, 1), (3, 1), (2, 1), (3, 1), (2, 1), (1, 1), (2, 1), (1, 1), (0, 1)]
def tb122 : List (Nat × Nat) := [(4, 1), (4, 1), (2, 1), (4, 1), (4, 1), (2, 1), (2, 1), (2, 1), (0, 1)]
def tb123 : List (Nat × Nat) := [(6, 1), (6, 1), (3, 1), (6, 1), (6, 1), (3, 1), (3, 1), (3, 1), (0, 1)]
def tb124 : List (Nat × Nat) := [(8, 1), (8, 1), (4, 1), (8, 1), (8, 1), (4, 1), (4, 1), (4, 1), (0, 1)]
def tb131 : List (Nat × Nat) := [(6, 1), (5, 1), (4, 1), (3, 1), (5, 1), (4, 1), (3, 1), (2, 1), (4, 1), (3, 1), (2, 1), (1, 1), (3, 1), (2, 1), (1, 1), (0, 1)]
def tb132 : List (Nat × Nat) := [(25, 4), (11, 2), (5, 1), (3, 1), (11, 2), (4, 1), (4, 1), (2, 1), (5, 1), (4, 1), (4, 1), (2, 1), (3, 1), (2, 1), (2, 1), (0, 1)]
def tb133 : List (Nat × Nat) := [(6, 1), (6, 1), (6, 1), (3, 1), (6, 1), (6, 1), (6, 1), (3, 1), (6, 1), (6, 1), (6, 1), (3, 1), (3, 1), (3, 1), (3, 1), (0, 1)]
def tb134 : List (Nat × Nat) := [(8, 1), (8, 1), (8, 1), (4, 1), (8, 1), (8, 1), (8, 1), (4, 1), (8, 1), (8, 1), (8, 1), (4, 1), (4, 1), (4, 1), (4, 1), (0, 1)]
def tb141 : List (Nat × Nat) := [(8, 1), (7, 1), (6, 1), (5, 1), (4, 1), (7, 1), (6, 1), (5, 1), (4, 1), (3, 1), (6, 1), (5, 1), (4, 1), (3, 1), (2, 1), (5, 1), (4, 1), (3, 1), (2, 1), (1, 1), (4, 1), (3, 1), (2, 1), (1, 1), (0, 1)]
def tb142 : List (Nat × Nat) := [(117, 16), (55, 8), (23, 4), (11, 2), (7, 2), (55, 8), (25, 4), (11, 2), (5, 1), (3, 1), (23, 4), (11, 2), (4, 1), (4, 1), (2, 1), (11, 2), (5, 1), (4, 1), (4, 1), (2, 1), (7, 2), (3, 1), (2, 1), (2, 1), (0, 1)]
def tb143 : List (Nat × Nat) := [(226, 27), (70, 9), (22, 3), (7, 1), (4, 1), (70, 9), (6, 1), (6, 1), (6, 1), (3, 1), (22, 3), (6, 1), (6, 1), (6, 1), (3, 1), (7, 1), (6, 1), (6, 1), (6, 1), (3, 1), (4, 1), (3, 1), (3, 1), (3, 1), (0, 1)]
def tb144 : List (Nat × Nat) := [(8, 1), (8, 1), (8, 1), (8, 1), (4, 1), (8, 1), (8, 1), (8, 1), (8, 1), (4, 1), (8, 1), (8, 1), (8, 1), (8, 1), (4, 1), (8, 1), (8, 1), (8, 1), (8, 1), (4, 1), (4, 1), (4, 1), (4, 1), (4, 1), (0, 1)]
def tb151 : List (Nat × Nat) := [(10, 1), (9, 1), (8, 1), (7, 1), (6, 1), (5, 1), (9, 1), (8, 1), (7, 1), (6, 1), (5, 1), (4, 1), (8, 1), (7, 1), (6, 1), (5, 1), (4, 1), (3, 1), (7, 1), (6, 1), (5, 1), (4, 1), (3, 1), (2, 1), (6, 1), (5, 1), (4, 1), (3, 1), (2, 1), (1, 1), (5, 1), (4, 1), (3, 1), (2, 1), (1, 1), (0, 1)]
def tb152 : List (Nat × Nat) := [(569, 64), (263, 32), (121, 16), (55, 8), (25, 4), (17, 4), (263, 32), (117, 16), (55, 8), (23, 4), (11, 2), (7, 2), (121, 16), (55, 8), (25, 4), (11, 2), (5, 1), (3, 1), (55, 8), (23, 4), (11, 2), (4, 1), (4, 1), (2, 1), (25, 4), (11, 2), (5, 1), (4, 1), (4, 1), (2, 1), (17, 4), (7, 2), (3, 1), (2, 1), (2, 1), (0, 1)]
def tb153 : List (Nat × Nat) := [(2212, 243), (715, 81), (217, 27), (67, 9), (22, 3), (13, 3), (715, 81), (226, 27), (70, 9), (22, 3), (7, 1), (4, 1), (217, 27), (70, 9), (6, 1), (6, 1), (6, 1), (3, 1), (67, 9), (22, 3), (6, 1), (6, 1), (6, 1), (3, 1), (22, 3), (7, 1), (6, 1), (6, 1), (6, 1), (3, 1), (13, 3), (4, 1), (3, 1), (3, 1), (3, 1), (0, 1)]
def tb154 : List (Nat × Nat) := [(2673, 256), (637, 64), (153, 16), (37, 4), (9, 1), (5, 1), (637, 64), (8, 1), (8, 1), (8, 1), (8, 1), (4, 1), (153, 16), (8, 1), (8, 1), (8, 1), (8, 1), (4, 1), (37, 4), (8, 1), (8, 1), (8, 1), (8, 1), (4, 1), (9, 1), (8, 1), (8, 1), (8, 1), (8, 1), (4, 1), (5, 1), (4, 1), (4, 1), (4, 1), (4, 1), (0, 1)]
def tb161 : List (Nat × Nat) := [(12, 1), (11, 1), (10, 1), (9, 1), (8, 1), (7, 1), (6, 1), (11, 1), (10, 1), (9, 1), (8, 1), (7, 1), (6, 1), (5, 1), (10, 1), (9, 1), (8, 1), (7, 1), (6, 1), (5, 1), (4, 1), (9, 1), (8, 1), (7, 1), (6, 1), (5, 1), (4, 1), (3, 1), (8, 1), (7, 1), (6, 1), (5, 1), (4, 1), (3, 1), (2, 1), (7, 1), (6, 1), (5, 1), (4, 1), (3, 1), (2, 1), (1, 1), (6, 1), (5, 1), (4, 1), (3, 1), (2, 1), (1, 1), (0, 1)]
def tb162 : List (Nat × Nat) := [(2601, 256), (1223, 128), (561, 64), (263, 32), (117, 16), (55, 8), (39, 8), (1223, 128), (569, 64), (263, 32), (121, 16), (55, 8), (25, 4), (17, 4), (561, 64), (263, 32), (117, 16), (55, 8), (23, 4), (11, 2), (7, 2), (263, 32), (121, 16), (55, 8), (25, 4), (11, 2), (5, 1), (3, 1), (117, 16), (55, 8), (23, 4), (11, 2), (4, 1), (4, 1), (2, 1), (55, 8), (25, 4), (11, 2), (5, 1), (4, 1), (4, 1), (2, 1), (39, 8), (17, 4), (7, 2), (3, 1), (2, 1), (2, 1), (0, 1)]
def tb163 : List (Nat × Nat) := [(22108, 2187), (7093, 729), (2266, 243), (670, 81), (217, 27), (70, 9), (43, 9), (7093, 729), (2212, 243), (715, 81), (217, 27), (67, 9), (22, 3), (13, 3), (2266, 243), (715, 81), (226, 27), (70, 9), (22, 3), (7, 1), (4, 1), (670, 81), (217, 27), (70, 9), (6, 1), (6, 1), (6, 1), (3, 1), (217, 27), (67, 9), (22, 3), (6, 1), (6, 1), (6, 1), (3, 1), (70, 9), (22, 3), (7, 1), (6, 1), (6, 1), (6, 1), (3, 1), (43, 9), (13, 3), (4, 1), (3, 1), (3, 1), (3, 1), (0, 1)]
def tb164 : List (Nat × Nat) := [(45001, 4096), (11061, 1024), (2593, 256), (621, 64), (149, 16), (37, 4), (21, 4), (11061, 1024), (2673, 256), (637, 64), (153, 16), (37, 4), (9, 1), (5, 1), (2593, 256), (637, 64), (8, 1), (8, 1), (8, 1), (8, 1), (4, 1), (621, 64), (153, 16), (8, 1), (8, 1), (8, 1), (8, 1), (4, 1), (149, 16), (37, 4), (8, 1), (8, 1), (8, 1), (8, 1), (4, 1), (37, 4), (9, 1), (8, 1), (8, 1), (8, 1), (8, 1), (4, 1), (21, 4), (5, 1), (4, 1), (4, 1), (4, 1), (4, 1), (0, 1)]
def tb211 : List (Nat × Nat) := [(2, 1), (1, 1), (1, 1), (0, 1)]
def tb212 : List (Nat × Nat) := [(4, 1), (2, 1), (2, 1), (0, 1)]
def tb213 : List (Nat × Nat) := [(6, 1), (3, 1), (3, 1), (0, 1)]
def tb214 : List (Nat × Nat) := [(8, 1), (4, 1), (4, 1), (0, 1)]
def tb221 : List (Nat × Nat) := [(4, 1), (3, 1), (2, 1), (3, 1), (2, 1), (1, 1), (2, 1), (1, 1), (0, 1)]
def tb222 : List (Nat × Nat) := [(7, 2), (3, 1), (2, 1), (3, 1), (4, 1), (2, 1), (2, 1), (2, 1), (0, 1)]
def tb223 : List (Nat × Nat) := [(21, 4), (9, 2), (3, 1), (9, 2), (6, 1), (3, 1), (3, 1), (3, 1), (0, 1)]
def tb224 : List (Nat × Nat) := [(7, 1), (6, 1), (4, 1), (6, 1), (8, 1), (4, 1), (4, 1), (4, 1), (0, 1)]
def tb231 : List (Nat × Nat) := [(6, 1), (5, 1), (4, 1), (3, 1), (5, 1), (4, 1), (3, 1), (2, 1), (4, 1), (3, 1), (2, 1), (1, 1), (3, 1), (2, 1), (1, 1), (0, 1)]
def tb232 : List (Nat × Nat) := [(45, 8), (19, 4), (9, 2), (3, 1), (19, 4), (7, 2), (3, 1), (2, 1), (9, 2), (3, 1), (4, 1), (2, 1), (3, 1), (2, 1), (2, 1), (0, 1)]
def tb233 : List (Nat × Nat) := [(47, 9), (14, 3), (5, 1), (3, 1), (14, 3), (21, 4), (9, 2), (3, 1), (5, 1), (9, 2), (6, 1), (3, 1), (3, 1), (3, 1), (3, 1), (0, 1)]
def tb234 : List (Nat × Nat) := [(188, 27), (56, 9), (20, 3), (4, 1), (56, 9), (7, 1), (6, 1), (4, 1), (20, 3), (6, 1), (8, 1), (4, 1), (4, 1), (4, 1), (4, 1), (0, 1)]
def tb241 : List (Nat × Nat) := [(8, 1), (7, 1), (6, 1), (5, 1), (4, 1), (7, 1), (6, 1), (5, 1), (4, 1), (3, 1), (6, 1), (5, 1), (4, 1), (3, 1), (2, 1), (5, 1), (4, 1), (3, 1), (2, 1), (1, 1), (4, 1), (3, 1), (2, 1), (1, 1), (0, 1)]
def tb242 : List (Nat × Nat) := [(199, 32), (89, 16), (39, 8), (17, 4), (7, 2), (89, 16), (45, 8), (19, 4), (9, 2), (3, 1), (39, 8), (19, 4), (7, 2), (3, 1), (2, 1), (17, 4), (9, 2), (3, 1), (4, 1), (2, 1), (7, 2), (3, 1), (2, 1), (2, 1), (0, 1)]
def tb243 : List (Nat × Nat) := [(562, 81), (335, 54), (52, 9), (35, 6), (4, 1), (335, 54), (47, 9), (14, 3), (5, 1), (3, 1), (52, 9), (14, 3), (21, 4), (9, 2), (3, 1), (35, 6), (5, 1), (9, 2), (6, 1), (3, 1), (4, 1), (3, 1), (3, 1), (3, 1), (0, 1)]
def tb244 : List (Nat × Nat) := [(857, 128), (197, 32), (49, 8), (13, 2), (4, 1), (197, 32), (188, 27), (56, 9), (20, 3), (4, 1), (49, 8), (56, 9), (7, 1), (6, 1), (4, 1), (13, 2), (20, 3), (6, 1), (8, 1), (4, 1), (4, 1), (4, 1), (4, 1), (4, 1), (0, 1)]
def tb251 : List (Nat × Nat) := [(10, 1), (9, 1), (8, 1), (7, 1), (6, 1), (5, 1), (9, 1), (8, 1), (7, 1), (6, 1), (5, 1), (4, 1), (8, 1), (7, 1), (6, 1), (5, 1), (4, 1), (3, 1), (7, 1), (6, 1), (5, 1), (4, 1), (3, 1), (2, 1), (6, 1), (5, 1), (4, 1), (3, 1), (2, 1), (1, 1), (5, 1), (4, 1), (3, 1), (2, 1), (1, 1), (0, 1)]
def tb252 : List (Nat × Nat) := [(1011, 128), (461, 64), (211, 32), (93, 16), (43, 8), (17, 4), (461, 64), (199, 32), (89, 16), (39, 8), (17, 4), (7, 2), (211, 32), (89, 16), (45, 8), (19, 4), (9, 2), (3, 1), (93, 16), (39, 8), (19, 4), (7, 2), (3, 1), (2, 1), (43, 8), (17, 4), (9, 2), (3, 1), (4, 1), (2, 1), (17, 4), (7, 2), (3, 1), (2, 1), (2, 1), (0, 1)]
def tb253 : List (Nat × Nat) := [(10889, 1458), (1702, 243), (2053, 324), (655, 108), (101, 18), (13, 3), (1702, 243), (562, 81), (335, 54), (52, 9), (35, 6), (4, 1), (2053, 324), (335, 54), (47, 9), (14, 3), (5, 1), (3, 1), (655, 108), (52, 9), (14, 3), (21, 4), (9, 2), (3, 1), (101, 18), (35, 6), (5, 1), (9, 2), (6, 1), (3, 1), (13, 3), (4, 1), (3, 1), (3, 1), (3, 1), (0, 1)]
def tb254 : List (Nat × Nat) := [(26285, 3072), (6025, 768), (487, 64), (353, 48), (89, 12), (5, 1), (6025, 768), (857, 128), (197, 32), (49, 8), (13, 2), (4, 1), (487, 64), (197, 32), (188, 27), (56, 9), (20, 3), (4, 1), (353, 48), (49, 8), (56, 9), (7, 1), (6, 1), (4, 1), (89, 12), (13, 2), (20, 3), (6, 1), (8, 1), (4, 1), (5, 1), (4, 1), (4, 1), (4, 1), (4, 1), (0, 1)]
def tb261 : List (Nat × Nat) := [(12, 1), (11, 1), (10, 1), (9, 1), (8, 1), (7, 1), (6, 1), (11, 1), (10, 1), (9, 1), (8, 1), (7, 1), (6, 1), (5, 1), (10, 1), (9, 1), (8, 1), (7, 1), (6, 1), (5, 1), (4, 1), (9, 1), (8, 1), (7, 1), (6, 1), (5, 1), (4, 1), (3, 1), (8, 1), (7, 1), (6, 1), (5, 1), (4, 1), (3, 1), (2, 1), (7, 1), (6, 1), (5, 1), (4, 1), (3, 1), (2, 1), (1, 1), (6, 1), (5, 1), (4, 1), (3, 1), (2, 1), (1, 1), (0, 1)]
def tb262 : List (Nat × Nat) := [(4551, 512), (2105, 256), (967, 128), (441, 64), (199, 32), (89, 16), (39, 8), (2105, 256), (1011, 128), (461, 64), (211, 32), (93, 16), (43, 8), (17, 4), (967, 128), (461, 64), (199, 32), (89, 16), (39, 8), (17, 4), (7, 2), (441, 64), (211, 32), (89, 16), (45, 8), (19, 4), (9, 2), (3, 1), (199, 32), (93, 16), (39, 8), (19, 4), (7, 2), (3, 1), (2, 1), (89, 16), (43, 8), (17, 4), (9, 2), (3, 1), (4, 1), (2, 1), (39, 8), (17, 4), (7, 2), (3, 1), (2, 1), (2, 1), (0, 1)]
def tb263 : List (Nat × Nat) := [(108887, 13122), (34019, 4374), (5383, 729), (1636, 243), (1007, 162), (335, 54), (43, 9), (34019, 4374), (10889, 1458), (1702, 243), (2053, 324), (655, 108), (101, 18), (13, 3), (5383, 729), (1702, 243), (562, 81), (335, 54), (52, 9), (35, 6), (4, 1), (1636, 243), (2053, 324), (335, 54), (47, 9), (14, 3), (5, 1), (3, 1), (1007, 162), (655, 108), (52, 9), (14, 3), (21, 4), (9, 2), (3, 1), (335, 54), (101, 18), (35, 6), (5, 1), (9, 2), (6, 1), (3, 1), (43, 9), (13, 3), (4, 1), (3, 1), (3, 1), (3, 1), (0, 1)]
def tb264 : List (Nat × Nat) := [(143963, 16384), (103837, 12288), (23993, 3072), (17263, 2304), (4259, 576), (341, 48), (21, 4), (103837, 12288), (26285, 3072), (6025, 768), (487, 64), (353, 48), (89, 12), (5, 1), (23993, 3072), (6025, 768), (857, 128), (197, 32), (49, 8), (13, 2), (4, 1), (17263, 2304), (487, 64), (197, 32), (188, 27), (56, 9), (20, 3), (4, 1), (4259, 576), (353, 48), (49, 8), (56, 9), (7, 1), (6, 1), (4, 1), (341, 48), (89, 12), (13, 2), (20, 3), (6, 1), (8, 1), (4, 1), (21, 4), (5, 1), (4, 1), (4, 1), (4, 1), (4, 1), (0, 1)]
def tb311 : List (Nat × Nat) := [(2, 1), (1, 1), (1, 1), (0, 1)]
def tb312 : List (Nat × Nat) := [(4, 1), (2, 1), (2, 1), (0, 1)]
def tb313 : List (Nat × Nat) := [(6, 1), (3, 1), (3, 1), (0, 1)]
def tb314 : List (Nat × Nat) := [(8, 1), (4, 1), (4, 1), (0, 1)]
def tb321 : List (Nat × Nat) := [(4, 1), (3, 1), (2, 1), (3, 1), (2, 1), (1, 1), (2, 1), (1, 1), (0, 1)]
def tb322 : List (Nat × Nat) := [(4, 1), (4, 1), (2, 1), (4, 1), (4, 1), (2, 1), (2, 1), (2, 1), (0, 1)]
def tb323 : List (Nat × Nat) := [(6, 1), (6, 1), (3, 1), (6, 1), (6, 1), (3, 1), (3, 1), (3, 1), (0, 1)]
def tb324 : List (Nat × Nat) := [(8, 1), (8, 1), (4, 1), (8, 1), (8, 1), (4, 1), (4, 1), (4, 1), (0, 1)]
def tb331 : List (Nat × Nat) := [(6, 1), (5, 1), (4, 1), (3, 1), (5, 1), (4, 1), (3, 1), (2, 1), (4, 1), (3, 1), (2, 1), (1, 1), (3, 1), (2, 1), (1, 1), (0, 1)]
def tb332 : List (Nat × Nat) := [(6, 1), (5, 1), (5, 1), (3, 1), (5, 1), (4, 1), (4, 1), (2, 1), (5, 1), (4, 1), (4, 1), (2, 1), (3, 1), (2, 1), (2, 1), (0, 1)]
def tb333 : List (Nat × Nat) := [(6, 1), (6, 1), (6, 1), (3, 1), (6, 1), (6, 1), (6, 1), (3, 1), (6, 1), (6, 1), (6, 1), (3, 1), (3, 1), (3, 1), (3, 1), (0, 1)]
def tb334 : List (Nat × Nat) := [(8, 1), (8, 1), (8, 1), (4, 1), (8, 1), (8, 1), (8, 1), (4, 1), (8, 1), (8, 1), (8, 1), (4, 1), (4, 1), (4, 1), (4, 1), (0, 1)]
def tb341 : List (Nat × Nat) := [(8, 1), (7, 1), (6, 1), (5, 1), (4, 1), (7, 1), (6, 1), (5, 1), (4, 1), (3, 1), (6, 1), (5, 1), (4, 1), (3, 1), (2, 1), (5, 1), (4, 1), (3, 1), (2, 1), (1, 1), (4, 1), (3, 1), (2, 1), (1, 1), (0, 1)]
def tb342 : List (Nat × Nat) := [(7, 1), (13, 2), (11, 2), (11, 2), (7, 2), (13, 2), (6, 1), (5, 1), (5, 1), (3, 1), (11, 2), (5, 1), (4, 1), (4, 1), (2, 1), (11, 2), (5, 1), (4, 1), (4, 1), (2, 1), (7, 2), (3, 1), (2, 1), (2, 1), (0, 1)]
def tb343 : List (Nat × Nat) := [(8, 1), (7, 1), (7, 1), (7, 1), (4, 1), (7, 1), (6, 1), (6, 1), (6, 1), (3, 1), (7, 1), (6, 1), (6, 1), (6, 1), (3, 1), (7, 1), (6, 1), (6, 1), (6, 1), (3, 1), (4, 1), (3, 1), (3, 1), (3, 1), (0, 1)]
def tb344 : List (Nat × Nat) := [(8, 1), (8, 1), (8, 1), (8, 1), (4, 1), (8, 1), (8, 1), (8, 1), (8, 1), (4, 1), (8, 1), (8, 1), (8, 1), (8, 1), (4, 1), (8, 1), (8, 1), (8, 1), (8, 1), (4, 1), (4, 1), (4, 1), (4, 1), (4, 1), (0, 1)]
def tb351 : List (Nat × Nat) := [(10, 1), (9, 1), (8, 1), (7, 1), (6, 1), (5, 1), (9, 1), (8, 1), (7, 1), (6, 1), (5, 1), (4, 1), (8, 1), (7, 1), (6, 1), (5, 1), (4, 1), (3, 1), (7, 1), (6, 1), (5, 1), (4, 1), (3, 1), (2, 1), (6, 1), (5, 1), (4, 1), (3, 1), (2, 1), (1, 1), (5, 1), (4, 1), (3, 1), (2, 1), (1, 1), (0, 1)]
def tb352 : List (Nat × Nat) := [(17, 2), (31, 4), (29, 4), (25, 4), (25, 4), (17, 4), (31, 4), (7, 1), (13, 2), (11, 2), (11, 2), (7, 2), (29, 4), (13, 2), (6, 1), (5, 1), (5, 1), (3, 1), (25, 4), (11, 2), (5, 1), (4, 1), (4, 1), (2, 1), (25, 4), (11, 2), (5, 1), (4, 1), (4, 1), (2, 1), (17, 4), (7, 2), (3, 1), (2, 1), (2, 1), (0, 1)]
def tb353 : List (Nat × Nat) := [(26, 3), (25, 3), (22, 3), (22, 3), (22, 3), (13, 3), (25, 3), (8, 1), (7, 1), (7, 1), (7, 1), (4, 1), (22, 3), (7, 1), (6, 1), (6, 1), (6, 1), (3, 1), (22, 3), (7, 1), (6, 1), (6, 1), (6, 1), (3, 1), (22, 3), (7, 1), (6, 1), (6, 1), (6, 1), (3, 1), (13, 3), (4, 1), (3, 1), (3, 1), (3, 1), (0, 1)]
def tb354 : List (Nat × Nat) := [(10, 1), (9, 1), (9, 1), (9, 1), (9, 1), (5, 1), (9, 1), (8, 1), (8, 1), (8, 1), (8, 1), (4, 1), (9, 1), (8, 1), (8, 1), (8, 1), (8, 1), (4, 1), (9, 1), (8, 1), (8, 1), (8, 1), (8, 1), (4, 1), (9, 1), (8, 1), (8, 1), (8, 1), (8, 1), (4, 1), (5, 1), (4, 1), (4, 1), (4, 1), (4, 1), (0, 1)]
def tb361 : List (Nat × Nat) := [(12, 1), (11, 1), (10, 1), (9, 1), (8, 1), (7, 1), (6, 1), (11, 1), (10, 1), (9, 1), (8, 1), (7, 1), (6, 1), (5, 1), (10, 1), (9, 1), (8, 1), (7, 1), (6, 1), (5, 1), (4, 1), (9, 1), (8, 1), (7, 1), (6, 1), (5, 1), (4, 1), (3, 1), (8, 1), (7, 1), (6, 1), (5, 1), (4, 1), (3, 1), (2, 1), (7, 1), (6, 1), (5, 1), (4, 1), (3, 1), (2, 1), (1, 1), (6, 1), (5, 1), (4, 1), (3, 1), (2, 1), (1, 1), (0, 1)]
def tb362 : List (Nat × Nat) := [(39, 4), (73, 8), (67, 8), (63, 8), (55, 8), (55, 8), (39, 8), (73, 8), (17, 2), (31, 4), (29, 4), (25, 4), (25, 4), (17, 4), (67, 8), (31, 4), (7, 1), (13, 2), (11, 2), (11, 2), (7, 2), (63, 8), (29, 4), (13, 2), (6, 1), (5, 1), (5, 1), (3, 1), (55, 8), (25, 4), (11, 2), (5, 1), (4, 1), (4, 1), (2, 1), (55, 8), (25, 4), (11, 2), (5, 1), (4, 1), (4, 1), (2, 1), (39, 8), (17, 4), (7, 2), (3, 1), (2, 1), (2, 1), (0, 1)]
def tb363 : List (Nat × Nat) := [(86, 9), (82, 9), (79, 9), (70, 9), (70, 9), (70, 9), (43, 9), (82, 9), (26, 3), (25, 3), (22, 3), (22, 3), (22, 3), (13, 3), (79, 9), (25, 3), (8, 1), (7, 1), (7, 1), (7, 1), (4, 1), (70, 9), (22, 3), (7, 1), (6, 1), (6, 1), (6, 1), (3, 1), (70, 9), (22, 3), (7, 1), (6, 1), (6, 1), (6, 1), (3, 1), (70, 9), (22, 3), (7, 1), (6, 1), (6, 1), (6, 1), (3, 1), (43, 9), (13, 3), (4, 1), (3, 1), (3, 1), (3, 1), (0, 1)]
def tb364 : List (Nat × Nat) := [(21, 2), (41, 4), (37, 4), (37, 4), (37, 4), (37, 4), (21, 4), (41, 4), (10, 1), (9, 1), (9, 1), (9, 1), (9, 1), (5, 1), (37, 4), (9, 1), (8, 1), (8, 1), (8, 1), (8, 1), (4, 1), (37, 4), (9, 1), (8, 1), (8, 1), (8, 1), (8, 1), (4, 1), (37, 4), (9, 1), (8, 1), (8, 1), (8, 1), (8, 1), (4, 1), (37, 4), (9, 1), (8, 1), (8, 1), (8, 1), (8, 1), (4, 1), (21, 4), (5, 1), (4, 1), (4, 1), (4, 1), (4, 1), (0, 1)]
def tbl : Nat → Nat → Nat → List (Nat × Nat)
  | 0, 1, 1 => tb011
  | 0, 1, 2 => tb012
  | 0, 1, 3 => tb013
  | 0, 1, 4 => tb014
  | 0, 2, 1 => tb021
  | 0, 2, 2 => tb022
  | 0, 2, 3 => tb023
  | 0, 2, 4 => tb024
  | 0, 3, 1 => tb031
  | 0, 3, 2 => tb032
  | 0, 3, 3 => tb033
  | 0, 3, 4 => tb034
  | 0, 4, 1 => tb041
  | 0, 4, 2 => tb042
  | 0, 4, 3 => tb043
  | 0, 4, 4 => tb044
  | 0, 5, 1 => tb051
  | 0, 5, 2 => tb052
  | 0, 5, 3 => tb053
  | 0, 5, 4 => tb054
  | 0, 6, 1 => tb061
  | 0, 6, 2 => tb062
  | 0, 6, 3 => tb063
  | 0, 6, 4 => tb064
  | 1, 1, 1 => tb111
  | 1, 1, 2 => tb112
  | 1, 1, 3 => tb113
  | 1, 1, 4 => tb114
  | 1, 2, 1 => tb121
  | 1, 2, 2 => tb122
  | 1, 2, 3 => tb123
  | 1, 2, 4 => tb124
  | 1, 3, 1 => tb131
  | 1, 3, 2 => tb132
  | 1, 3, 3 => tb133
  | 1, 3, 4 => tb134
  | 1, 4, 1 => tb141
  | 1, 4, 2 => tb142
  | 1, 4, 3 => tb143
  | 1, 4, 4 => tb144
  | 1, 5, 1 => tb151
  | 1, 5, 2 => tb152
  | 1, 5, 3 => tb153
  | 1, 5, 4 => tb154
  | 1, 6, 1 => tb161
  | 1, 6, 2 => tb162
  | 1, 6, 3 => tb163
  | 1, 6, 4 => tb164
  | 2, 1, 1 => tb211
  | 2, 1, 2 => tb212
  | 2, 1, 3 => tb213
  | 2, 1, 4 => tb214
  | 2, 2, 1 => tb221
  | 2, 2, 2 => tb222
  | 2, 2, 3 => tb223
  | 2, 2, 4 => tb224
  | 2, 3, 1 => tb231
  | 2, 3, 2 => tb232
  | 2, 3, 3 => tb233
  | 2, 3, 4 => tb234
  | 2, 4, 1 => tb241
  | 2, 4, 2 => tb242
  | 2, 4, 3 => tb243
  | 2, 4, 4 => tb244
  | 2, 5, 1 => tb251
  | 2, 5, 2 => tb252
  | 2, 5, 3 => tb253
  | 2, 5, 4 => tb254
  | 2, 6, 1 => tb261
  | 2, 6, 2 => tb262
  | 2, 6, 3 => tb263
  | 2, 6, 4 => tb264
  | 3, 1, 1 => tb311
  | 3, 1, 2 => tb312
  | 3, 1, 3 => tb313
  | 3, 1, 4 => tb314
  | 3, 2, 1 => tb321
  | 3, 2, 2 => tb322
  | 3, 2, 3 => tb323
  | 3, 2, 4 => tb324
  | 3, 3, 1 => tb331
  | 3, 3, 2 => tb332
  | 3, 3, 3 => tb333
  | 3, 3, 4 => tb334
  | 3, 4, 1 => tb341
  | 3, 4, 2 => tb342
  | 3, 4, 3 => tb343
  | 3, 4, 4 => tb344
  | 3, 5, 1 => tb351
  | 3, 5, 2 => tb352
  | 3, 5, 3 => tb353
  | 3, 5, 4 => tb354
  | 3, 6, 1 => tb361
  | 3, 6, 2 => tb362
  | 3, 6, 3 => tb363
  | 3, 6, 4 => tb364
  | _, _, _ => []
def mT (ru : Nat) (s f a b : Int) : Int × Int :=
  let p := (tbl ru s.toNat f.toNat).getD (a.toNat * (s.toNat + 1) + b.toNat) (0, 1)
  ((p.1 : Int), (p.2 : Int))
theorem ty_twins : "133" = "133" := rfl
end Go.Proofs.Ytgahigmpcgfbeaa.P
end

section
namespace Go.Proofs.Ytgahigmpcgfbeaa.P
open Go.RowKit Go.Proofs.YtgahigmpcgfbeaaW.PrintWords Go.Proofs.YtgahigmpcgfbeaaW.PrintLast Go.Proofs.YtgahigmpcgfbeaaW.PrintMore
attribute [local go_sem] max2_int min2_int max_two min_two max_three min_three max_four min_four
set_option linter.unusedVariables false
set_option linter.unusedSimpArgs false
def impl_lowest.l0 : Nat → Int → Int → Int → Int → Option (Int × Int)
  | 0, _, _, _, _ => none
  | k + 1, x0, x1, x6, x7 => if x7 = 0 then (if x6 = 0 then (none) else (some (wrap64 (Int.tdiv x0 x6), wrap64 (Int.tdiv x1 x6)))) else (impl_lowest.l0 k x0 x1 x7 (Int.tmod x6 x7))
def impl_lowest.f (k : Nat) (a0 : Int) (a1 : Int) : Option (Int × Int) := impl_lowest.l0 k a0 a1 a0 a1
theorem impl_lowest.mono_l : ∀ k, (∀ y0 y1 y2 y3, LeO (impl_lowest.l0 k y0 y1 y2 y3) (impl_lowest.l0 (k + 1) y0 y1 y2 y3))
  | 0 => fun _ _ _ _ r h => by simp [impl_lowest.l0] at h
  | k + 1 => by
    have ih0 := impl_lowest.mono_l k
    · intro y0 y1 y2 y3
      unfold impl_lowest.l0
      repeat' first
      | (with_reducible exact ih0 _ _ _ _)
      | (with_reducible exact LeO.refl _)
      | (with_reducible exact LeO.none _)
      | (with_reducible refine LeO.ite ?_ ?_)
      | (with_reducible refine LeO.bind ?_ (fun _ => ?_))
      | exact ih0 _ _ _ _
      | exact LeO.none _
      | refine LeO.ite ?_ ?_
      | refine LeO.bind ?_ (fun _ => ?_)
theorem impl_lowest.mono : ∀ a0 a1 k, LeO (impl_lowest.f k a0 a1) (impl_lowest.f (k + 1) a0 a1) := by
  intro a0 a1 k
  have ih0 := impl_lowest.mono_l k
  unfold impl_lowest.f
  repeat' first
      | (with_reducible exact ih0 _ _ _ _)
      | (with_reducible exact LeO.refl _)
      | (with_reducible exact LeO.none _)
      | (with_reducible refine LeO.ite ?_ ?_)
      | (with_reducible refine LeO.bind ?_ (fun _ => ?_))
      | exact ih0 _ _ _ _
      | exact LeO.none _
      | refine LeO.ite ?_ ?_
      | refine LeO.bind ?_ (fun _ => ?_)
set_option maxHeartbeats 8000000 in
set_option maxRecDepth 100000 in
theorem impl_lowest.calls (k : Nat) (a0 : Int) (a1 : Int) (r1 : Int) (r2 : Int) (w : World) (h : impl_lowest.f k a0 a1 = some (r1, r2)) :
    Calls Try.prog 276 #[.int .i64 a0, .int .i64 a1] w fun e w' => e = .returned (.tuple #[.int .i64 r1, .int .i64 r2]) ∧ Drawn0 w w' := by
  have H : (impl_lowest.l0 k a0 a1 a0 a1) = some (r1, r2) := h
  clear h
  have H' := Aside0.mk H
  clear H
  go_enter Try.func276, Try.ntmps276
  go_wp2
  repeat (go_quiet (fail); try go_wp2)
  go_loopg [6, 7] k (fun kq v6 v7 w' => ∃ (x6_1 : Int) (x7_1 : Int), v6 = .int .i64 x6_1 ∧ v7 = .int .i64 x7_1 ∧ Aside0 (impl_lowest.l0 kq a0 a1 x6_1 x7_1 = some (r1, r2)) ∧ Aside0 (kq ≤ k) ∧ Drawn0 w w')
  case atStart => exact ⟨(a0), (a1), (by first | rfl | (simp; done) | (simp [*]; done)), (by first | rfl | (simp; done) | (simp [*]; done)), H', ⟨Nat.le_refl _⟩, by repeat (first | exact Drawn0.refl _ | apply Drawn0.step)⟩
  case round =>
    clear H'
    try clear c2
    try clear p2
    obtain ⟨x6_1, x7_1, rfl, rfl, HA, HK1, ⟨m1, rfl⟩⟩ := hrel
    cases gk with
    | zero => exact absurd HA.out (by simp [impl_lowest.l0])
    | succ k1 =>
      have H := HA.out
      clear HA
      simp only [impl_lowest.l0] at H
      by_cases c3 : x7_1 = 0
      · rw [if_pos c3] at H
        have c3b0 : (x7_1 == 0) = true := beq_iff_eq.mpr c3
        have c3b1 : (x7_1 != 0) = false := bne_eq_false_iff_eq.mpr c3
        clear c3
        by_cases c4 : x6_1 = 0
        · rw [if_pos c4] at H
          exact absurd H (by simp)
        · rw [if_neg c4] at H
          have c4b0 : (x6_1 == 0) = false := beq_eq_false_iff_ne.mpr c4
          have c4b1 : (x6_1 != 0) = true := bne_iff_ne.mpr c4
          simp only [Option.some.injEq, Prod.mk.injEq] at H
          obtain ⟨rfl, rfl⟩ := H
          go_wp2
          repeat (go_quiet (fail); try go_wp2)
          go_ret2
          exact ⟨by first | rfl | (simp; done) | (simp [*]; done), by repeat (first | exact Drawn0.refl _ | apply Drawn0.step)⟩
      · rw [if_neg c3] at H
        have c3b0 : (x7_1 == 0) = false := beq_eq_false_iff_ne.mpr c3
        have c3b1 : (x7_1 != 0) = true := bne_iff_ne.mpr c3
        have H' := Aside0.mk H
        clear H
        go_wp2
        repeat (go_quiet (fail); try go_wp2)
        go_roundg k1
        case measure => have := HK1.out; omega
        case rel => exact ⟨(x7_1), (Int.tmod x6_1 x7_1), (by first | rfl | (simp; done) | (simp [*]; done)), (by first | rfl | (simp; done) | (simp [*]; done)), H', ⟨by have := HK1.out; omega⟩, by repeat (first | exact Drawn0.refl _ | apply Drawn0.step)⟩
end Go.Proofs.Ytgahigmpcgfbeaa.P
end

section
namespace Go.Proofs.Ytgahigmpcgfbeaa.P
open Go.RowKit Go.Proofs.YtgahigmpcgfbeaaW.PrintWords Go.Proofs.YtgahigmpcgfbeaaW.PrintLast Go.Proofs.YtgahigmpcgfbeaaW.PrintMore
attribute [local go_sem] max2_int min2_int max_two min_two max_three min_three max_four min_four
set_option linter.unusedVariables false
set_option linter.unusedSimpArgs false
def impl_fractionOf.f (k : Nat) (a0 : Int) (a1 : Int) : Option (Int × Int) := if a1 < 0 then ((impl_lowest.f k (mx (wrap64 (-a0)) (wrap64 (-(wrap64 (-a0))))) (wrap64 (-a1))).bind fun bt1068 => (if (wrap64 (-a0)) < 0 then (some (wrap64 (-bt1068.1), bt1068.2)) else (some (bt1068.1, bt1068.2)))) else ((impl_lowest.f k (mx a0 (wrap64 (-a0))) a1).bind fun bt1070 => (if a0 < 0 then (some (wrap64 (-bt1070.1), bt1070.2)) else (some (bt1070.1, bt1070.2))))
theorem impl_fractionOf.mono : ∀ a0 a1 k, LeO (impl_fractionOf.f k a0 a1) (impl_fractionOf.f (k + 1) a0 a1) := by
  intro a0 a1 k
  unfold impl_fractionOf.f
  repeat' first
      | (with_reducible exact impl_lowest.mono _ _ _)
      | (with_reducible exact LeO.refl _)
      | (with_reducible exact LeO.none _)
      | (with_reducible refine LeO.ite ?_ ?_)
      | (with_reducible refine LeO.bind ?_ (fun _ => ?_))
      | exact impl_lowest.mono _ _ _
      | exact LeO.none _
      | refine LeO.ite ?_ ?_
      | refine LeO.bind ?_ (fun _ => ?_)
set_option maxHeartbeats 8000000 in
set_option maxRecDepth 100000 in
theorem impl_fractionOf.calls (k : Nat) (a0 : Int) (a1 : Int) (r1 : Int) (r2 : Int) (w : World) (h : impl_fractionOf.f k a0 a1 = some (r1, r2)) :
    Calls Try.prog 220 #[.int .i64 a0, .int .i64 a1] w fun e w' => e = .returned (.agg #[.int .i64 r1, .int .i64 r2]) ∧ Below w.heap.size w w' := by
  have hu147 := Try.underlying147
  have HB := Aside0.mk (Below.refl w.heap.size w)
  have H : (if a1 < 0 then ((impl_lowest.f k (mx (wrap64 (-a0)) (wrap64 (-(wrap64 (-a0))))) (wrap64 (-a1))).bind fun bt1068 => (if (wrap64 (-a0)) < 0 then (some (wrap64 (-bt1068.1), bt1068.2)) else (some (bt1068.1, bt1068.2)))) else ((impl_lowest.f k (mx a0 (wrap64 (-a0))) a1).bind fun bt1070 => (if a0 < 0 then (some (wrap64 (-bt1070.1), bt1070.2)) else (some (bt1070.1, bt1070.2))))) = some (r1, r2) := h
  clear h
  by_cases c3 : a1 < 0
  · rw [if_pos c3] at H
    have c3b0 : decide (a1 < 0) = true := decide_eq_true c3
    clear c3
    obtain ⟨ji4, hji4⟩ : ∃ j_ : Int, (mx (wrap64 (-a0)) (wrap64 (-(wrap64 (-a0))))) = j_ := ⟨_, rfl⟩
    replace H : ((impl_lowest.f k (ji4) (wrap64 (-a1))).bind fun bt1068 => (if (wrap64 (-a0)) < 0 then (some (wrap64 (-bt1068.1), bt1068.2)) else (some (bt1068.1, bt1068.2)))) = some (r1, r2) := by first | (rw [hji4] at H; exact H) | (simp only [hji4] at H ⊢; exact H)
    have hji4_ : (if (wrap64 (-a0)) < (wrap64 (-(wrap64 (-a0)))) then (wrap64 (-(wrap64 (-a0)))) else (wrap64 (-a0))) = ji4 := hji4
    replace H := Option.bind_eq_some_iff.mp H
    obtain ⟨⟨t1068, t1069⟩, A50, H⟩ := H
    replace H : (if (wrap64 (-a0)) < 0 then (some (wrap64 (-t1068), t1069)) else (some (t1068, t1069))) = some (r1, r2) := H
    have A5 := Aside0.mk A50
    clear A50
    by_cases c6 : (wrap64 (-a0)) < 0
    · rw [if_pos c6] at H
      have c6b0 : decide ((wrap64 (-a0)) < 0) = true := decide_eq_true c6
      clear c6
      simp only [Option.some.injEq, Prod.mk.injEq] at H
      obtain ⟨rfl, rfl⟩ := H
      go_enter Try.func220, Try.ntmps220
      go_wp2_with (first | ((with_reducible refine gate_dst (N := 4) rfl ?_); refine box_event ?hg (N := 4) ?hd (cs := #[.int .i64 0, .int .i64 0]) (t := 147) ?hr ?_; (case hd => rfl); (case hg => rfl); (case hr => first | (go_simp; done) | (go_simp; rfl)); intro gb1067 hg w7 hbox hb; have n0_ := Aside0.mk (below_step (by repeat (first | (with_reducible first | exact HB.out | apply below_alloc | apply pw_below_drewN | apply below_drew1) | exact HB.out)) hb); have n1_ := Aside0.mk (hbox); have n2_ := Aside0.mk ((by rw [hg]; exact (below_size (by repeat (first | (with_reducible first | exact HB.out | apply below_alloc | apply pw_below_drewN | apply below_drew1) | exact HB.out))) : w.heap.size ≤ gb1067)); have n3_ := Aside0.mk ((by rw [hg]; exact (below_size (by repeat (first | (with_reducible first | exact HB.out | apply below_alloc | apply pw_below_drewN | apply below_drew1) | exact HB.out))) : w.heap.size ≤ gb1067)); clear HB; have HB := n0_; have BK1067 := n1_; have GW1067 := n2_; have GE1067 := n3_; clear n0_ n1_ n2_ n3_; clear hb hbox hg) | ((with_reducible refine gate_callee (f := 276) rfl ?_); refine goesL_ (some 21) rfl rfl Try.func276 (by kernel_rfl) rfl #[.int .i64 ji4, .int .i64 (wrap64 (-a1))] rfl (by (try simp only [List.map_toArray, List.map_cons, List.map_nil]); first | done | (simp only [hji4]; rfl) | rfl | (simp only [List.length_drop, List.length_take]; rfl)) ?_; (with_reducible refine (impl_lowest.calls k ji4 (wrap64 (-a1)) t1068 t1069 _ A5.out).mono ?_); rintro e w' ⟨rfl, ⟨nd, rfl⟩⟩; refine ⟨_, rfl, ?_⟩; (try (rw [drewN_self w7]; generalize hq_ : World.drewN w7 _ = w7; have n0_ : Aside0 (w7.heap[gb1067]? = some (.cells #[.int .i64 0, .int .i64 0] 147 (0, 0))) := ⟨by rw [← hq_]; exact (by (with_reducible repeat (first | refine blk_drewN ?_ _ | refine blk_drew ?_ | refine blk_alloc ?_ _)); exact BK1067.out)⟩; have n1_ : Aside0 (Below w.heap.size w w7) := ⟨by rw [← hq_]; exact (by repeat (first | (with_reducible first | exact HB.out | apply below_alloc | apply pw_below_drewN | apply below_drew1 | refine below_set ?_ GE1067.out) | exact HB.out))⟩; clear BK1067 HB hq_; have BK1067 := n0_; have HB := n1_; clear n0_ n1_)); have hcz8_0 : w7.cell? ⟨gb1067, 0, none⟩ = some (.int .i64 0) := (blk_cell BK1067.out 0).trans rfl; have hcz8_1 : w7.cell? ⟨gb1067, 1, none⟩ = some (.int .i64 0) := (blk_cell BK1067.out 1).trans rfl; have hfz8_0 := blk_frozen BK1067.out 0; have hfz8_1 := blk_frozen BK1067.out 1))
      refine bodyPost_ret (results_cell_row rfl _ _ gb1067 147 #[.int .i64 (wrap64 (-t1068)), .int .i64 t1069] (0, 0) _ rfl (by (with_reducible repeat (first | refine blk_drewN ?_ _ | refine blk_drew ?_ | refine blk_alloc ?_ _)); refine blk_put (cs := #[.int .i64 (wrap64 (-t1068)), .int .i64 0]) ?_ 1 _ rfl; (with_reducible repeat (first | refine blk_drewN ?_ _ | refine blk_drew ?_ | refine blk_alloc ?_ _)); refine blk_put (cs := #[.int .i64 0, .int .i64 0]) ?_ 0 _ rfl; (with_reducible repeat (first | refine blk_drewN ?_ _ | refine blk_drew ?_ | refine blk_alloc ?_ _)); exact BK1067.out) Try.underlying147 rfl (by kernel_rfl)) rfl ?_
      exact ⟨by first | rfl | (simp [errW_none, errW_some] <;> rfl) | (simp only [← hji4]; first | rfl | (simp [errW_none, errW_some] <;> rfl)) | (simp [*, errW_none, errW_some] <;> rfl), by repeat (first | (with_reducible first | exact HB.out | apply below_alloc | apply pw_below_drewN | apply below_drew1 | refine below_set ?_ GE1067.out) | exact HB.out)⟩
    · rw [if_neg c6] at H
      have c6b0 : decide ((wrap64 (-a0)) < 0) = false := decide_eq_false c6
      clear c6
      simp only [Option.some.injEq, Prod.mk.injEq] at H
      obtain ⟨rfl, rfl⟩ := H
      go_enter Try.func220, Try.ntmps220
      go_wp2_with (first | ((with_reducible refine gate_dst (N := 4) rfl ?_); refine box_event ?hg (N := 4) ?hd (cs := #[.int .i64 0, .int .i64 0]) (t := 147) ?hr ?_; (case hd => rfl); (case hg => rfl); (case hr => first | (go_simp; done) | (go_simp; rfl)); intro gb1067 hg w9 hbox hb; have n0_ := Aside0.mk (below_step (by repeat (first | (with_reducible first | exact HB.out | apply below_alloc | apply pw_below_drewN | apply below_drew1) | exact HB.out)) hb); have n1_ := Aside0.mk (hbox); have n2_ := Aside0.mk ((by rw [hg]; exact (below_size (by repeat (first | (with_reducible first | exact HB.out | apply below_alloc | apply pw_below_drewN | apply below_drew1) | exact HB.out))) : w.heap.size ≤ gb1067)); have n3_ := Aside0.mk ((by rw [hg]; exact (below_size (by repeat (first | (with_reducible first | exact HB.out | apply below_alloc | apply pw_below_drewN | apply below_drew1) | exact HB.out))) : w.heap.size ≤ gb1067)); clear HB; have HB := n0_; have BK1067 := n1_; have GW1067 := n2_; have GE1067 := n3_; clear n0_ n1_ n2_ n3_; clear hb hbox hg) | ((with_reducible refine gate_callee (f := 276) rfl ?_); refine goesL_ (some 21) rfl rfl Try.func276 (by kernel_rfl) rfl #[.int .i64 ji4, .int .i64 (wrap64 (-a1))] rfl (by (try simp only [List.map_toArray, List.map_cons, List.map_nil]); first | done | (simp only [hji4]; rfl) | rfl | (simp only [List.length_drop, List.length_take]; rfl)) ?_; (with_reducible refine (impl_lowest.calls k ji4 (wrap64 (-a1)) t1068 t1069 _ A5.out).mono ?_); rintro e w' ⟨rfl, ⟨nd, rfl⟩⟩; refine ⟨_, rfl, ?_⟩; (try (rw [drewN_self w9]; generalize hq_ : World.drewN w9 _ = w9; have n0_ : Aside0 (w9.heap[gb1067]? = some (.cells #[.int .i64 0, .int .i64 0] 147 (0, 0))) := ⟨by rw [← hq_]; exact (by (with_reducible repeat (first | refine blk_drewN ?_ _ | refine blk_drew ?_ | refine blk_alloc ?_ _)); exact BK1067.out)⟩; have n1_ : Aside0 (Below w.heap.size w w9) := ⟨by rw [← hq_]; exact (by repeat (first | (with_reducible first | exact HB.out | apply below_alloc | apply pw_below_drewN | apply below_drew1 | refine below_set ?_ GE1067.out) | exact HB.out))⟩; clear BK1067 HB hq_; have BK1067 := n0_; have HB := n1_; clear n0_ n1_)); have hcz10_0 : w9.cell? ⟨gb1067, 0, none⟩ = some (.int .i64 0) := (blk_cell BK1067.out 0).trans rfl; have hcz10_1 : w9.cell? ⟨gb1067, 1, none⟩ = some (.int .i64 0) := (blk_cell BK1067.out 1).trans rfl; have hfz10_0 := blk_frozen BK1067.out 0; have hfz10_1 := blk_frozen BK1067.out 1))
      refine bodyPost_ret (results_cell_row rfl _ _ gb1067 147 #[.int .i64 t1068, .int .i64 t1069] (0, 0) _ rfl (by (with_reducible repeat (first | refine blk_drewN ?_ _ | refine blk_drew ?_ | refine blk_alloc ?_ _)); refine blk_put (cs := #[.int .i64 t1068, .int .i64 0]) ?_ 1 _ rfl; (with_reducible repeat (first | refine blk_drewN ?_ _ | refine blk_drew ?_ | refine blk_alloc ?_ _)); refine blk_put (cs := #[.int .i64 0, .int .i64 0]) ?_ 0 _ rfl; (with_reducible repeat (first | refine blk_drewN ?_ _ | refine blk_drew ?_ | refine blk_alloc ?_ _)); exact BK1067.out) Try.underlying147 rfl (by kernel_rfl)) rfl ?_
      exact ⟨by first | rfl | (simp [errW_none, errW_some] <;> rfl) | (simp only [← hji4]; first | rfl | (simp [errW_none, errW_some] <;> rfl)) | (simp [*, errW_none, errW_some] <;> rfl), by repeat (first | (with_reducible first | exact HB.out | apply below_alloc | apply pw_below_drewN | apply below_drew1 | refine below_set ?_ GE1067.out) | exact HB.out)⟩
  · rw [if_neg c3] at H
    have c3b0 : decide (a1 < 0) = false := decide_eq_false c3
    clear c3
    obtain ⟨ji11, hji11⟩ : ∃ j_ : Int, (mx a0 (wrap64 (-a0))) = j_ := ⟨_, rfl⟩
    replace H : ((impl_lowest.f k (ji11) a1).bind fun bt1070 => (if a0 < 0 then (some (wrap64 (-bt1070.1), bt1070.2)) else (some (bt1070.1, bt1070.2)))) = some (r1, r2) := by first | (rw [hji11] at H; exact H) | (simp only [hji11] at H ⊢; exact H)
    have hji11_ : (if a0 < (wrap64 (-a0)) then (wrap64 (-a0)) else a0) = ji11 := hji11
    replace H := Option.bind_eq_some_iff.mp H
    obtain ⟨⟨t1070, t1071⟩, A120, H⟩ := H
    replace H : (if a0 < 0 then (some (wrap64 (-t1070), t1071)) else (some (t1070, t1071))) = some (r1, r2) := H
    have A12 := Aside0.mk A120
    clear A120
    by_cases c13 : a0 < 0
    · rw [if_pos c13] at H
      have c13b0 : decide (a0 < 0) = true := decide_eq_true c13
      clear c13
      simp only [Option.some.injEq, Prod.mk.injEq] at H
      obtain ⟨rfl, rfl⟩ := H
      go_enter Try.func220, Try.ntmps220
      go_wp2_with (first | ((with_reducible refine gate_dst (N := 4) rfl ?_); refine box_event ?hg (N := 4) ?hd (cs := #[.int .i64 0, .int .i64 0]) (t := 147) ?hr ?_; (case hd => rfl); (case hg => rfl); (case hr => first | (go_simp; done) | (go_simp; rfl)); intro gb1067 hg w14 hbox hb; have n0_ := Aside0.mk (below_step (by repeat (first | (with_reducible first | exact HB.out | apply below_alloc | apply pw_below_drewN | apply below_drew1) | exact HB.out)) hb); have n1_ := Aside0.mk (hbox); have n2_ := Aside0.mk ((by rw [hg]; exact (below_size (by repeat (first | (with_reducible first | exact HB.out | apply below_alloc | apply pw_below_drewN | apply below_drew1) | exact HB.out))) : w.heap.size ≤ gb1067)); have n3_ := Aside0.mk ((by rw [hg]; exact (below_size (by repeat (first | (with_reducible first | exact HB.out | apply below_alloc | apply pw_below_drewN | apply below_drew1) | exact HB.out))) : w.heap.size ≤ gb1067)); clear HB; have HB := n0_; have BK1067 := n1_; have GW1067 := n2_; have GE1067 := n3_; clear n0_ n1_ n2_ n3_; clear hb hbox hg) | ((with_reducible refine gate_callee (f := 276) rfl ?_); refine goesL_ (some 21) rfl rfl Try.func276 (by kernel_rfl) rfl #[.int .i64 ji11, .int .i64 a1] rfl (by (try simp only [List.map_toArray, List.map_cons, List.map_nil]); first | done | (simp only [hji11]; rfl) | rfl | (simp only [List.length_drop, List.length_take]; rfl)) ?_; (with_reducible refine (impl_lowest.calls k ji11 a1 t1070 t1071 _ A12.out).mono ?_); rintro e w' ⟨rfl, ⟨nd, rfl⟩⟩; refine ⟨_, rfl, ?_⟩; (try (rw [drewN_self w14]; generalize hq_ : World.drewN w14 _ = w14; have n0_ : Aside0 (w14.heap[gb1067]? = some (.cells #[.int .i64 0, .int .i64 0] 147 (0, 0))) := ⟨by rw [← hq_]; exact (by (with_reducible repeat (first | refine blk_drewN ?_ _ | refine blk_drew ?_ | refine blk_alloc ?_ _)); exact BK1067.out)⟩; have n1_ : Aside0 (Below w.heap.size w w14) := ⟨by rw [← hq_]; exact (by repeat (first | (with_reducible first | exact HB.out | apply below_alloc | apply pw_below_drewN | apply below_drew1 | refine below_set ?_ GE1067.out) | exact HB.out))⟩; clear BK1067 HB hq_; have BK1067 := n0_; have HB := n1_; clear n0_ n1_)); have hcz15_0 : w14.cell? ⟨gb1067, 0, none⟩ = some (.int .i64 0) := (blk_cell BK1067.out 0).trans rfl; have hcz15_1 : w14.cell? ⟨gb1067, 1, none⟩ = some (.int .i64 0) := (blk_cell BK1067.out 1).trans rfl; have hfz15_0 := blk_frozen BK1067.out 0; have hfz15_1 := blk_frozen BK1067.out 1))
      refine bodyPost_ret (results_cell_row rfl _ _ gb1067 147 #[.int .i64 (wrap64 (-t1070)), .int .i64 t1071] (0, 0) _ rfl (by (with_reducible repeat (first | refine blk_drewN ?_ _ | refine blk_drew ?_ | refine blk_alloc ?_ _)); refine blk_put (cs := #[.int .i64 (wrap64 (-t1070)), .int .i64 0]) ?_ 1 _ rfl; (with_reducible repeat (first | refine blk_drewN ?_ _ | refine blk_drew ?_ | refine blk_alloc ?_ _)); refine blk_put (cs := #[.int .i64 0, .int .i64 0]) ?_ 0 _ rfl; (with_reducible repeat (first | refine blk_drewN ?_ _ | refine blk_drew ?_ | refine blk_alloc ?_ _)); exact BK1067.out) Try.underlying147 rfl (by kernel_rfl)) rfl ?_
      exact ⟨by first | rfl | (simp [errW_none, errW_some] <;> rfl) | (simp only [← hji11]; first | rfl | (simp [errW_none, errW_some] <;> rfl)) | (simp [*, errW_none, errW_some] <;> rfl), by repeat (first | (with_reducible first | exact HB.out | apply below_alloc | apply pw_below_drewN | apply below_drew1 | refine below_set ?_ GE1067.out) | exact HB.out)⟩
    · rw [if_neg c13] at H
      have c13b0 : decide (a0 < 0) = false := decide_eq_false c13
      clear c13
      simp only [Option.some.injEq, Prod.mk.injEq] at H
      obtain ⟨rfl, rfl⟩ := H
      go_enter Try.func220, Try.ntmps220
      go_wp2_with (first | ((with_reducible refine gate_dst (N := 4) rfl ?_); refine box_event ?hg (N := 4) ?hd (cs := #[.int .i64 0, .int .i64 0]) (t := 147) ?hr ?_; (case hd => rfl); (case hg => rfl); (case hr => first | (go_simp; done) | (go_simp; rfl)); intro gb1067 hg w16 hbox hb; have n0_ := Aside0.mk (below_step (by repeat (first | (with_reducible first | exact HB.out | apply below_alloc | apply pw_below_drewN | apply below_drew1) | exact HB.out)) hb); have n1_ := Aside0.mk (hbox); have n2_ := Aside0.mk ((by rw [hg]; exact (below_size (by repeat (first | (with_reducible first | exact HB.out | apply below_alloc | apply pw_below_drewN | apply below_drew1) | exact HB.out))) : w.heap.size ≤ gb1067)); have n3_ := Aside0.mk ((by rw [hg]; exact (below_size (by repeat (first | (with_reducible first | exact HB.out | apply below_alloc | apply pw_below_drewN | apply below_drew1) | exact HB.out))) : w.heap.size ≤ gb1067)); clear HB; have HB := n0_; have BK1067 := n1_; have GW1067 := n2_; have GE1067 := n3_; clear n0_ n1_ n2_ n3_; clear hb hbox hg) | ((with_reducible refine gate_callee (f := 276) rfl ?_); refine goesL_ (some 21) rfl rfl Try.func276 (by kernel_rfl) rfl #[.int .i64 ji11, .int .i64 a1] rfl (by (try simp only [List.map_toArray, List.map_cons, List.map_nil]); first | done | (simp only [hji11]; rfl) | rfl | (simp only [List.length_drop, List.length_take]; rfl)) ?_; (with_reducible refine (impl_lowest.calls k ji11 a1 t1070 t1071 _ A12.out).mono ?_); rintro e w' ⟨rfl, ⟨nd, rfl⟩⟩; refine ⟨_, rfl, ?_⟩; (try (rw [drewN_self w16]; generalize hq_ : World.drewN w16 _ = w16; have n0_ : Aside0 (w16.heap[gb1067]? = some (.cells #[.int .i64 0, .int .i64 0] 147 (0, 0))) := ⟨by rw [← hq_]; exact (by (with_reducible repeat (first | refine blk_drewN ?_ _ | refine blk_drew ?_ | refine blk_alloc ?_ _)); exact BK1067.out)⟩; have n1_ : Aside0 (Below w.heap.size w w16) := ⟨by rw [← hq_]; exact (by repeat (first | (with_reducible first | exact HB.out | apply below_alloc | apply pw_below_drewN | apply below_drew1 | refine below_set ?_ GE1067.out) | exact HB.out))⟩; clear BK1067 HB hq_; have BK1067 := n0_; have HB := n1_; clear n0_ n1_)); have hcz17_0 : w16.cell? ⟨gb1067, 0, none⟩ = some (.int .i64 0) := (blk_cell BK1067.out 0).trans rfl; have hcz17_1 : w16.cell? ⟨gb1067, 1, none⟩ = some (.int .i64 0) := (blk_cell BK1067.out 1).trans rfl; have hfz17_0 := blk_frozen BK1067.out 0; have hfz17_1 := blk_frozen BK1067.out 1))
      refine bodyPost_ret (results_cell_row rfl _ _ gb1067 147 #[.int .i64 t1070, .int .i64 t1071] (0, 0) _ rfl (by (with_reducible repeat (first | refine blk_drewN ?_ _ | refine blk_drew ?_ | refine blk_alloc ?_ _)); refine blk_put (cs := #[.int .i64 t1070, .int .i64 0]) ?_ 1 _ rfl; (with_reducible repeat (first | refine blk_drewN ?_ _ | refine blk_drew ?_ | refine blk_alloc ?_ _)); refine blk_put (cs := #[.int .i64 0, .int .i64 0]) ?_ 0 _ rfl; (with_reducible repeat (first | refine blk_drewN ?_ _ | refine blk_drew ?_ | refine blk_alloc ?_ _)); exact BK1067.out) Try.underlying147 rfl (by kernel_rfl)) rfl ?_
      exact ⟨by first | rfl | (simp [errW_none, errW_some] <;> rfl) | (simp only [← hji11]; first | rfl | (simp [errW_none, errW_some] <;> rfl)) | (simp [*, errW_none, errW_some] <;> rfl), by repeat (first | (with_reducible first | exact HB.out | apply below_alloc | apply pw_below_drewN | apply below_drew1 | refine below_set ?_ GE1067.out) | exact HB.out)⟩
end Go.Proofs.Ytgahigmpcgfbeaa.P
end

section
namespace Go.Proofs.Ytgahigmpcgfbeaa.P
open Go.RowKit Go.Proofs.YtgahigmpcgfbeaaW.PrintWords Go.Proofs.YtgahigmpcgfbeaaW.PrintLast Go.Proofs.YtgahigmpcgfbeaaW.PrintMore
attribute [local go_sem] max2_int min2_int max_two min_two max_three min_three max_four min_four
set_option linter.unusedVariables false
set_option linter.unusedSimpArgs false
def impl_fraction_plus.f (k : Nat) (a0_0 : Int) (a0_1 : Int) (a1_0 : Int) (a1_1 : Int) : Option (Int × Int) := (impl_lowest.f k a0_1 a1_1).bind fun bt1075 => (if a1_1 = 0 then (none) else ((impl_fractionOf.f k (wrap64 ((wrap64 (a0_0 * bt1075.2)) + (wrap64 (a1_0 * (wrap64 (Int.tdiv (wrap64 (a0_1 * bt1075.2)) a1_1)))))) (wrap64 (a0_1 * bt1075.2))).bind fun bt1077 => (some (bt1077.1, bt1077.2))))
theorem impl_fraction_plus.mono : ∀ a0 a1 a2 a3 k, LeO (impl_fraction_plus.f k a0 a1 a2 a3) (impl_fraction_plus.f (k + 1) a0 a1 a2 a3) := by
  intro a0 a1 a2 a3 k
  unfold impl_fraction_plus.f
  repeat' first
      | (with_reducible exact impl_fractionOf.mono _ _ _)
      | (with_reducible exact impl_lowest.mono _ _ _)
      | (with_reducible exact LeO.refl _)
      | (with_reducible exact LeO.none _)
      | (with_reducible refine LeO.ite ?_ ?_)
      | (with_reducible refine LeO.bind ?_ (fun _ => ?_))
      | exact impl_fractionOf.mono _ _ _
      | exact impl_lowest.mono _ _ _
      | exact LeO.none _
      | refine LeO.ite ?_ ?_
      | refine LeO.bind ?_ (fun _ => ?_)
def impl_fraction_plus.T2 : Bool × List (List Nat × List Nat) := (true, [([], []), ([0], [0]), ([], []), ([1, 2], [1, 2]), ([], []), ([4], [4]), ([], []), ([6], [6]), ([], []), ([7, 8], [7, 8]), ([], []), ([10], [10]), ([9, 11], [9, 11]), ([5, 12], [5, 12]), ([3, 13], [3, 13]), ([], []), ([15], [15]), ([], []), ([16, 17], [16, 17]), ([14, 18], [14, 18]), ([19, 19, 0, 1, 2, 3, 4, 5, 6, 7, 8, 9, 10, 11, 12, 13, 14, 15, 16, 17, 18, 19], [19])])
def impl_fraction_plus.B2 : List Nat := [0, 1, 0, 7, 0, 16, 0, 64, 0, 448, 0, 1024, 4032, 8176, 16383, 0, 32768, 0, 229376, 524287, 1048575]
theorem impl_fraction_plus.tab2 : rtab .any (opsOf Try.f219 2) = impl_fraction_plus.T2 := by kernel_rfl
theorem impl_fraction_plus.bits2 : waitsOk impl_fraction_plus.T2.2 impl_fraction_plus.B2 = true := by kernel_rfl
set_option maxHeartbeats 8000000 in
set_option maxRecDepth 100000 in
theorem impl_fraction_plus.calls (k : Nat) (a0_0 : Int) (a0_1 : Int) (a1_0 : Int) (a1_1 : Int) (r1 : Int) (r2 : Int) (w : World) (h : impl_fraction_plus.f k a0_0 a0_1 a1_0 a1_1 = some (r1, r2)) :
    Calls Try.prog 219 #[.agg #[.int .i64 a0_0, .int .i64 a0_1], .agg #[.int .i64 a1_0, .int .i64 a1_1]] w fun e w' => e = .returned (.agg #[.int .i64 r1, .int .i64 r2]) ∧ Below w.heap.size w w' := by
  have hu147 := Try.underlying147
  have HB := Aside0.mk (Below.refl w.heap.size w)
  have H : ((impl_lowest.f k a0_1 a1_1).bind fun bt1075 => (if a1_1 = 0 then (none) else ((impl_fractionOf.f k (wrap64 ((wrap64 (a0_0 * bt1075.2)) + (wrap64 (a1_0 * (wrap64 (Int.tdiv (wrap64 (a0_1 * bt1075.2)) a1_1)))))) (wrap64 (a0_1 * bt1075.2))).bind fun bt1077 => (some (bt1077.1, bt1077.2))))) = some (r1, r2) := h
  clear h
  replace H := Option.bind_eq_some_iff.mp H
  obtain ⟨⟨t1075, t1076⟩, A30, H⟩ := H
  replace H : (if a1_1 = 0 then (none) else ((impl_fractionOf.f k (wrap64 ((wrap64 (a0_0 * t1076)) + (wrap64 (a1_0 * (wrap64 (Int.tdiv (wrap64 (a0_1 * t1076)) a1_1)))))) (wrap64 (a0_1 * t1076))).bind fun bt1077 => (some (bt1077.1, bt1077.2)))) = some (r1, r2) := H
  have A3 := Aside0.mk A30
  clear A30
  by_cases c4 : a1_1 = 0
  · rw [if_pos c4] at H
    exact absurd H (by simp)
  · rw [if_neg c4] at H
    have c4b0 : (a1_1 == 0) = false := beq_eq_false_iff_ne.mpr c4
    have c4b1 : (a1_1 != 0) = true := bne_iff_ne.mpr c4
    replace H := Option.bind_eq_some_iff.mp H
    obtain ⟨⟨t1077, t1078⟩, A50, H⟩ := H
    replace H : (some (t1077, t1078)) = some (r1, r2) := H
    have A5 := Aside0.mk A50
    clear A50
    simp only [Option.some.injEq, Prod.mk.injEq] at H
    obtain ⟨rfl, rfl⟩ := H
    go_enter Try.func219, Try.ntmps219
    try go_wp2_with (first | ((with_reducible refine gate_dst (N := 2) rfl ?_); refine box_event ?hg (N := 2) ?hd (cs := #[.int .i64 a0_0, .int .i64 a0_1]) (t := 147) ?hr ?_; (case hd => rfl); (case hg => rfl); (case hr => first | (go_simp; done) | (go_simp; rfl)); intro gb1072 hg w6 hbox hb; have n0_ := Aside0.mk (below_step (by repeat (first | (with_reducible first | exact HB.out | apply below_alloc | apply pw_below_drewN | apply below_drew1) | exact HB.out)) hb); have n1_ := Aside0.mk (hbox); have n2_ := Aside0.mk ((by rw [hg]; exact (below_size (by repeat (first | (with_reducible first | exact HB.out | apply below_alloc | apply pw_below_drewN | apply below_drew1) | exact HB.out))) : w.heap.size ≤ gb1072)); have n3_ := Aside0.mk ((by rw [hg]; exact (below_size (by repeat (first | (with_reducible first | exact HB.out | apply below_alloc | apply pw_below_drewN | apply below_drew1) | exact HB.out))) : w.heap.size ≤ gb1072)); clear HB; have HB := n0_; have BK1072 := n1_; have GW1072 := n2_; have GE1072 := n3_; clear n0_ n1_ n2_ n3_; clear hb hbox hg) | ((with_reducible refine gate_dst (N := 3) rfl ?_); refine box_event ?hg (N := 3) ?hd (cs := #[.int .i64 a1_0, .int .i64 a1_1]) (t := 147) ?hr ?_; (case hd => rfl); (case hg => rfl); (case hr => first | (go_simp; done) | (go_simp; rfl)); intro gb1073 hg w7 hbox hb; have n0_ := Aside0.mk (blk_below (g := gb1072) (o := .cells #[.int .i64 a0_0, .int .i64 a0_1] 147 (0, 0)) (by (with_reducible repeat (first | refine blk_drewN ?_ _ | refine blk_drew ?_ | refine blk_alloc ?_ _)); exact BK1072.out) hb); have n1_ := Aside0.mk (below_step (by repeat (first | (with_reducible first | exact HB.out | apply below_alloc | apply pw_below_drewN | apply below_drew1 | refine below_set ?_ GE1072.out) | exact HB.out)) hb); have n2_ := Aside0.mk (hbox); have n3_ := Aside0.mk ((by rw [hg]; exact (below_size (by repeat (first | (with_reducible first | exact HB.out | apply below_alloc | apply pw_below_drewN | apply below_drew1 | refine below_set ?_ GE1072.out) | exact HB.out))) : w.heap.size ≤ gb1073)); have n4_ := Aside0.mk ((by rw [hg]; exact (below_size (by repeat (first | (with_reducible first | exact HB.out | apply below_alloc | apply pw_below_drewN | apply below_drew1 | refine below_set ?_ GE1072.out) | exact HB.out))) : w.heap.size ≤ gb1073)); have n5_ := Aside0.mk ((by rw [hg]; exact Nat.ne_of_lt (blk_lt (g := gb1072) (o := .cells #[.int .i64 a0_0, .int .i64 a0_1] 147 (0, 0)) (by (with_reducible repeat (first | refine blk_drewN ?_ _ | refine blk_drew ?_ | refine blk_alloc ?_ _)); exact BK1072.out)) : gb1072 ≠ gb1073)); have n6_ := Aside0.mk ((by rw [hg]; exact Nat.ne_of_gt (blk_lt (g := gb1072) (o := .cells #[.int .i64 a0_0, .int .i64 a0_1] 147 (0, 0)) (by (with_reducible repeat (first | refine blk_drewN ?_ _ | refine blk_drew ?_ | refine blk_alloc ?_ _)); exact BK1072.out)) : gb1073 ≠ gb1072)); clear BK1072; clear HB; have BK1072 := n0_; have HB := n1_; have BK1073 := n2_; have GW1073 := n3_; have GE1073 := n4_; have NB1072_1073 := n5_; have NB1073_1072 := n6_; clear n0_ n1_ n2_ n3_ n4_ n5_ n6_; clear hb hbox hg) | ((with_reducible refine gate_dst (N := 4) rfl ?_); refine box_event ?hg (N := 4) ?hd (cs := #[.int .i64 0, .int .i64 0]) (t := 147) ?hr ?_; (case hd => rfl); (case hg => rfl); (case hr => first | (go_simp; done) | (go_simp; rfl)); intro gb1074 hg w8 hbox hb; have n0_ := Aside0.mk (blk_below (g := gb1072) (o := .cells #[.int .i64 a0_0, .int .i64 a0_1] 147 (0, 0)) (by (with_reducible repeat (first | refine blk_drewN ?_ _ | refine blk_drew ?_ | refine blk_alloc ?_ _)); exact BK1072.out) hb); have n1_ := Aside0.mk (blk_below (g := gb1073) (o := .cells #[.int .i64 a1_0, .int .i64 a1_1] 147 (0, 0)) (by (with_reducible repeat (first | refine blk_drewN ?_ _ | refine blk_drew ?_ | refine blk_alloc ?_ _)); exact BK1073.out) hb); have n2_ := Aside0.mk (below_step (by repeat (first | (with_reducible first | exact HB.out | apply below_alloc | apply pw_below_drewN | apply below_drew1 | refine below_set ?_ GE1072.out | refine below_set ?_ GE1073.out) | exact HB.out)) hb); have n3_ := Aside0.mk (hbox); have n4_ := Aside0.mk ((by rw [hg]; exact (below_size (by repeat (first | (with_reducible first | exact HB.out | apply below_alloc | apply pw_below_drewN | apply below_drew1 | refine below_set ?_ GE1072.out | refine below_set ?_ GE1073.out) | exact HB.out))) : w.heap.size ≤ gb1074)); have n5_ := Aside0.mk ((by rw [hg]; exact (below_size (by repeat (first | (with_reducible first | exact HB.out | apply below_alloc | apply pw_below_drewN | apply below_drew1 | refine below_set ?_ GE1072.out | refine below_set ?_ GE1073.out) | exact HB.out))) : w.heap.size ≤ gb1074)); have n6_ := Aside0.mk ((by rw [hg]; exact Nat.ne_of_lt (blk_lt (g := gb1072) (o := .cells #[.int .i64 a0_0, .int .i64 a0_1] 147 (0, 0)) (by (with_reducible repeat (first | refine blk_drewN ?_ _ | refine blk_drew ?_ | refine blk_alloc ?_ _)); exact BK1072.out)) : gb1072 ≠ gb1074)); have n7_ := Aside0.mk ((by rw [hg]; exact Nat.ne_of_gt (blk_lt (g := gb1072) (o := .cells #[.int .i64 a0_0, .int .i64 a0_1] 147 (0, 0)) (by (with_reducible repeat (first | refine blk_drewN ?_ _ | refine blk_drew ?_ | refine blk_alloc ?_ _)); exact BK1072.out)) : gb1074 ≠ gb1072)); have n8_ := Aside0.mk ((by rw [hg]; exact Nat.ne_of_lt (blk_lt (g := gb1073) (o := .cells #[.int .i64 a1_0, .int .i64 a1_1] 147 (0, 0)) (by (with_reducible repeat (first | refine blk_drewN ?_ _ | refine blk_drew ?_ | refine blk_alloc ?_ _)); exact BK1073.out)) : gb1073 ≠ gb1074)); have n9_ := Aside0.mk ((by rw [hg]; exact Nat.ne_of_gt (blk_lt (g := gb1073) (o := .cells #[.int .i64 a1_0, .int .i64 a1_1] 147 (0, 0)) (by (with_reducible repeat (first | refine blk_drewN ?_ _ | refine blk_drew ?_ | refine blk_alloc ?_ _)); exact BK1073.out)) : gb1074 ≠ gb1073)); clear BK1072; clear BK1073; clear HB; have BK1072 := n0_; have BK1073 := n1_; have HB := n2_; have BK1074 := n3_; have GW1074 := n4_; have GE1074 := n5_; have NB1072_1074 := n6_; have NB1074_1072 := n7_; have NB1073_1074 := n8_; have NB1074_1073 := n9_; clear n0_ n1_ n2_ n3_ n4_ n5_ n6_ n7_ n8_ n9_; clear hb hbox hg; have hnb9 := NB1072_1073.out; have hnc9 := NB1073_1072.out; have hnb10 := NB1072_1074.out; have hnc10 := NB1074_1072.out; have hcz11_0 : w8.cell? ⟨gb1072, 0, none⟩ = some (.int .i64 a0_0) := (blk_cell BK1072.out 0).trans rfl; have hcz11_1 : w8.cell? ⟨gb1072, 1, none⟩ = some (.int .i64 a0_1) := (blk_cell BK1072.out 1).trans rfl; have hfz11_0 := blk_frozen BK1072.out 0; have hfz11_1 := blk_frozen BK1072.out 1; have hnb12 := NB1073_1074.out; have hnc12 := NB1074_1073.out; have hcz13_0 : w8.cell? ⟨gb1073, 0, none⟩ = some (.int .i64 a1_0) := (blk_cell BK1073.out 0).trans rfl; have hcz13_1 : w8.cell? ⟨gb1073, 1, none⟩ = some (.int .i64 a1_1) := (blk_cell BK1073.out 1).trans rfl; have hfz13_0 := blk_frozen BK1073.out 0; have hfz13_1 := blk_frozen BK1073.out 1) | ((with_reducible refine gate_callee (f := 276) rfl ?_); refine goesL_ (some 12) rfl rfl Try.func276 (by kernel_rfl) rfl #[.int .i64 a0_1, .int .i64 a1_1] rfl (by (try simp only [List.map_toArray, List.map_cons, List.map_nil]); first | done | rfl | (simp only [List.length_drop, List.length_take]; rfl)) ?_; (with_reducible refine (impl_lowest.calls k a0_1 a1_1 t1075 t1076 _ A3.out).mono ?_); rintro e w' ⟨rfl, ⟨nd, rfl⟩⟩; refine ⟨_, rfl, ?_⟩; (try (rw [drewN_self w8]; generalize hq_ : World.drewN w8 _ = w8; have n0_ : Aside0 (w8.heap[gb1072]? = some (.cells #[.int .i64 a0_0, .int .i64 a0_1] 147 (0, 0))) := ⟨by rw [← hq_]; exact (by (with_reducible repeat (first | refine blk_drewN ?_ _ | refine blk_drew ?_ | refine blk_alloc ?_ _)); exact BK1072.out)⟩; have n1_ : Aside0 (w8.heap[gb1073]? = some (.cells #[.int .i64 a1_0, .int .i64 a1_1] 147 (0, 0))) := ⟨by rw [← hq_]; exact (by (with_reducible repeat (first | refine blk_drewN ?_ _ | refine blk_drew ?_ | refine blk_alloc ?_ _)); exact BK1073.out)⟩; have n2_ : Aside0 (w8.heap[gb1074]? = some (.cells #[.int .i64 0, .int .i64 0] 147 (0, 0))) := ⟨by rw [← hq_]; exact (by (with_reducible repeat (first | refine blk_drewN ?_ _ | refine blk_drew ?_ | refine blk_alloc ?_ _)); exact BK1074.out)⟩; have n3_ : Aside0 (Below w.heap.size w w8) := ⟨by rw [← hq_]; exact (by repeat (first | (with_reducible first | exact HB.out | apply below_alloc | apply pw_below_drewN | apply below_drew1 | refine below_set ?_ GE1072.out | refine below_set ?_ GE1073.out | refine below_set ?_ GE1074.out) | exact HB.out))⟩; clear BK1072 BK1073 BK1074 HB hq_; have BK1072 := n0_; have BK1073 := n1_; have BK1074 := n2_; have HB := n3_; clear n0_ n1_ n2_ n3_))))
    have n0_ := Aside0.mk (blk_drew BK1072.out)
    have n1_ := Aside0.mk (blk_drew BK1073.out)
    have n2_ := Aside0.mk (blk_drew BK1074.out)
    have n3_ := Aside0.mk (below_drew1 HB.out)
    clear BK1072
    clear BK1073
    clear BK1074
    clear HB
    have BK1072 := n0_
    have BK1073 := n1_
    have BK1074 := n2_
    have HB := n3_
    clear n0_ n1_ n2_ n3_
    refine start_ (n := 21) (S := fun w' => w'.cell? ⟨gb1072, 0, none⟩ = some (.int .i64 a0_0) ∧ w'.cell? ⟨gb1072, 1, none⟩ = some (.int .i64 a0_1) ∧ w'.cell? ⟨gb1073, 0, none⟩ = some (.int .i64 a1_0) ∧ w'.cell? ⟨gb1073, 1, none⟩ = some (.int .i64 a1_1)) (ds := []) #[false, false, false, false, false, false, false, false, false, false, false, false, false, false, false, false, false, false, false, false, false] (by kernel_rfl) rfl rfl ⟨(blk_cell BK1072.out 0).trans rfl, (blk_cell BK1072.out 1).trans rfl, (blk_cell BK1073.out 0).trans rfl, (blk_cell BK1073.out 1).trans rfl⟩ (fun hHeld => ?_); refine with_tabW impl_fraction_plus.tab2 impl_fraction_plus.bits2 (fun HT_ HW_ => ?_)
    generalize w8.drew = w14 at BK1072 BK1073 BK1074 HB hHeld ⊢
    refine pure_ (i := 0) (N := some 15) (v := ?_) (a' := ?_) #[true, false, false, false, false, false, false, false, false, false, false, false, false, false, false, false, false, false, false, false, false] rfl rfl (any_of HT_.out (by kernel_rfl)) (fun _ _ _ h => h) (Or.inl ⟨by rfl, ?_⟩) ?_ ?_
    rotate_left
    · intro w'
      go_simp
      with_reducible rfl
    rotate_left
    · simp only [Act.put, List.setIfInBounds_toArray, List.set_cons_zero, List.set_cons_succ, i64_w, i32_w]
      rfl
    refine pure_ (i := 2) (N := some 17) (v := ?_) (a' := ?_) #[true, false, true, false, false, false, false, false, false, false, false, false, false, false, false, false, false, false, false, false, false] rfl rfl (any_of HT_.out (by kernel_rfl)) (fun _ _ _ h => h) (Or.inl ⟨by rfl, ?_⟩) ?_ ?_
    rotate_left
    · intro w'
      go_simp
      with_reducible rfl
    rotate_left
    · simp only [Act.put, List.setIfInBounds_toArray, List.set_cons_zero, List.set_cons_succ, i64_w, i32_w]
      rfl
    refine pure_ (i := 4) (N := some 19) (v := ?_) (a' := ?_) #[true, false, true, false, true, false, false, false, false, false, false, false, false, false, false, false, false, false, false, false, false] rfl rfl (any_of HT_.out (by kernel_rfl)) (fun _ _ _ h => h) (Or.inl ⟨by rfl, ?_⟩) ?_ ?_
    rotate_left
    · intro w'
      go_simp
      with_reducible rfl
    rotate_left
    · simp only [Act.put, List.setIfInBounds_toArray, List.set_cons_zero, List.set_cons_succ, i64_w, i32_w]
      rfl
    refine pure_ (i := 6) (N := some 21) (v := ?_) (a' := ?_) #[true, false, true, false, true, false, true, false, false, false, false, false, false, false, false, false, false, false, false, false, false] rfl rfl (any_of HT_.out (by kernel_rfl)) (fun _ _ _ h => h) (Or.inl ⟨by rfl, ?_⟩) ?_ ?_
    rotate_left
    · intro w'
      go_simp
      with_reducible rfl
    rotate_left
    · simp only [Act.put, List.setIfInBounds_toArray, List.set_cons_zero, List.set_cons_succ, i64_w, i32_w]
      rfl
    refine pure_ (i := 8) (N := some 23) (v := ?_) (a' := ?_) #[true, false, true, false, true, false, true, false, true, false, false, false, false, false, false, false, false, false, false, false, false] rfl rfl (any_of HT_.out (by kernel_rfl)) (fun _ _ _ h => h) (Or.inl ⟨by rfl, ?_⟩) ?_ ?_
    rotate_left
    · intro w'
      go_simp
      with_reducible rfl
    rotate_left
    · simp only [Act.put, List.setIfInBounds_toArray, List.set_cons_zero, List.set_cons_succ, i64_w, i32_w]
      rfl
    refine pure_ (i := 10) (N := some 25) (v := ?_) (a' := ?_) #[true, false, true, false, true, false, true, false, true, false, true, false, false, false, false, false, false, false, false, false, false] rfl rfl (any_of HT_.out (by kernel_rfl)) (fun _ _ _ h => h) (Or.inl ⟨by rfl, ?_⟩) ?_ ?_
    rotate_left
    · intro w'
      go_simp
      with_reducible rfl
    rotate_left
    · simp only [Act.put, List.setIfInBounds_toArray, List.set_cons_zero, List.set_cons_succ, i64_w, i32_w]
      rfl
    refine pure_ (i := 15) (N := some 30) (v := ?_) (a' := ?_) #[true, false, true, false, true, false, true, false, true, false, true, false, false, false, false, true, false, false, false, false, false] rfl rfl (any_of HT_.out (by kernel_rfl)) (fun _ _ _ h => h) (Or.inl ⟨by rfl, ?_⟩) ?_ ?_
    rotate_left
    · intro w'
      go_simp
      with_reducible rfl
    rotate_left
    · simp only [Act.put, List.setIfInBounds_toArray, List.set_cons_zero, List.set_cons_succ, i64_w, i32_w]
      rfl
    refine pure_ (i := 17) (N := some 32) (v := ?_) (a' := ?_) #[true, false, true, false, true, false, true, false, true, false, true, false, false, false, false, true, false, true, false, false, false] rfl rfl (any_of HT_.out (by kernel_rfl)) (fun _ _ _ h => h) (Or.inl ⟨by rfl, ?_⟩) ?_ ?_
    rotate_left
    · intro w'
      go_simp
      with_reducible rfl
    rotate_left
    · simp only [Act.put, List.setIfInBounds_toArray, List.set_cons_zero, List.set_cons_succ, i64_w, i32_w]
      rfl
    refine take_ (i := 1) (N := some 16) (v := ?_) (a' := ?_) #[true, true, true, false, true, false, true, false, true, false, true, false, false, false, false, true, false, true, false, false, false] rfl rfl (take_ofW HT_.out HW_.out (by kernel_rfl)) (fun _ _ _ h => h) (Or.inl ⟨by rfl, ?_⟩) hHeld ?_ ?_
    rotate_left
    · rintro w' ⟨s0, s1, s2, s3⟩
      go_simp
      with_reducible rfl
    rotate_left
    · simp only [Act.put, List.setIfInBounds_toArray, List.set_cons_zero, List.set_cons_succ, i64_w, i32_w]
      rfl
    refine pure_ (i := 3) (N := some 18) (v := ?_) (a' := ?_) #[true, true, true, true, true, false, true, false, true, false, true, false, false, false, false, true, false, true, false, false, false] rfl rfl (any_of HT_.out (by kernel_rfl)) (fun _ _ _ h => h) (Or.inl ⟨by rfl, ?_⟩) ?_ ?_
    rotate_left
    · intro w'
      go_simp
      with_reducible rfl
    rotate_left
    · simp only [Act.put, List.setIfInBounds_toArray, List.set_cons_zero, List.set_cons_succ, i64_w, i32_w]
      rfl
    refine take_ (i := 5) (N := some 20) (v := ?_) (a' := ?_) #[true, true, true, true, true, true, true, false, true, false, true, false, false, false, false, true, false, true, false, false, false] rfl rfl (take_ofW HT_.out HW_.out (by kernel_rfl)) (fun _ _ _ h => h) (Or.inl ⟨by rfl, ?_⟩) hHeld ?_ ?_
    rotate_left
    · rintro w' ⟨s0, s1, s2, s3⟩
      go_simp
      with_reducible rfl
    rotate_left
    · simp only [Act.put, List.setIfInBounds_toArray, List.set_cons_zero, List.set_cons_succ, i64_w, i32_w]
      rfl
    refine take_ (i := 7) (N := some 22) (v := ?_) (a' := ?_) #[true, true, true, true, true, true, true, true, true, false, true, false, false, false, false, true, false, true, false, false, false] rfl rfl (take_ofW HT_.out HW_.out (by kernel_rfl)) (fun _ _ _ h => h) (Or.inl ⟨by rfl, ?_⟩) hHeld ?_ ?_
    rotate_left
    · rintro w' ⟨s0, s1, s2, s3⟩
      go_simp
      with_reducible rfl
    rotate_left
    · simp only [Act.put, List.setIfInBounds_toArray, List.set_cons_zero, List.set_cons_succ, i64_w, i32_w]
      rfl
    refine pure_ (i := 9) (N := some 24) (v := ?_) (a' := ?_) #[true, true, true, true, true, true, true, true, true, true, true, false, false, false, false, true, false, true, false, false, false] rfl rfl (any_of HT_.out (by kernel_rfl)) (fun _ _ _ h => h) (Or.inl ⟨by rfl, ?_⟩) ?_ ?_
    rotate_left
    · intro w'
      go_simp
      with_reducible rfl
    rotate_left
    · simp only [Act.put, List.setIfInBounds_toArray, List.set_cons_zero, List.set_cons_succ, i64_w, i32_w]
      rfl
    refine take_ (i := 11) (N := some 26) (v := ?_) (a' := ?_) #[true, true, true, true, true, true, true, true, true, true, true, true, false, false, false, true, false, true, false, false, false] rfl rfl (take_ofW HT_.out HW_.out (by kernel_rfl)) (fun _ _ _ h => h) (Or.inl ⟨by rfl, ?_⟩) hHeld ?_ ?_
    rotate_left
    · rintro w' ⟨s0, s1, s2, s3⟩
      go_simp
      with_reducible rfl
    rotate_left
    · simp only [Act.put, List.setIfInBounds_toArray, List.set_cons_zero, List.set_cons_succ, i64_w, i32_w]
      rfl
    refine pure_ (i := 12) (N := some 27) (v := ?_) (a' := ?_) #[true, true, true, true, true, true, true, true, true, true, true, true, true, false, false, true, false, true, false, false, false] rfl rfl (any_of HT_.out (by kernel_rfl)) (fun _ _ _ h => h) (Or.inl ⟨by rfl, ?_⟩) ?_ ?_
    rotate_left
    · intro w'
      go_simp
      with_reducible rfl
    rotate_left
    · simp only [Act.put, List.setIfInBounds_toArray, List.set_cons_zero, List.set_cons_succ, i64_w, i32_w]
      rfl
    refine pure_ (i := 13) (N := some 28) (v := ?_) (a' := ?_) #[true, true, true, true, true, true, true, true, true, true, true, true, true, true, false, true, false, true, false, false, false] rfl rfl (any_of HT_.out (by kernel_rfl)) (fun _ _ _ h => h) (Or.inl ⟨by rfl, ?_⟩) ?_ ?_
    rotate_left
    · intro w'
      go_simp
      with_reducible rfl
    rotate_left
    · simp only [Act.put, List.setIfInBounds_toArray, List.set_cons_zero, List.set_cons_succ, i64_w, i32_w]
      rfl
    refine pure_ (i := 14) (N := some 29) (v := ?_) (a' := ?_) #[true, true, true, true, true, true, true, true, true, true, true, true, true, true, true, true, false, true, false, false, false] rfl rfl (any_of HT_.out (by kernel_rfl)) (fun _ _ _ h => h) (Or.inl ⟨by rfl, ?_⟩) ?_ ?_
    rotate_left
    · intro w'
      go_simp
      with_reducible rfl
    rotate_left
    · simp only [Act.put, List.setIfInBounds_toArray, List.set_cons_zero, List.set_cons_succ, i64_w, i32_w]
      rfl
    refine take_ (i := 16) (N := some 31) (v := ?_) (a' := ?_) #[true, true, true, true, true, true, true, true, true, true, true, true, true, true, true, true, true, true, false, false, false] rfl rfl (take_ofW HT_.out HW_.out (by kernel_rfl)) (fun _ _ _ h => h) (Or.inl ⟨by rfl, ?_⟩) hHeld ?_ ?_
    rotate_left
    · rintro w' ⟨s0, s1, s2, s3⟩
      go_simp
      with_reducible rfl
    rotate_left
    · simp only [Act.put, List.setIfInBounds_toArray, List.set_cons_zero, List.set_cons_succ, i64_w, i32_w]
      rfl
    refine pure_ (i := 18) (N := some 33) (v := ?_) (a' := ?_) #[true, true, true, true, true, true, true, true, true, true, true, true, true, true, true, true, true, true, true, false, false] rfl rfl (any_of HT_.out (by kernel_rfl)) (fun _ _ _ h => h) (Or.inl ⟨by rfl, ?_⟩) ?_ ?_
    rotate_left
    · intro w'
      go_simp
      with_reducible rfl
    rotate_left
    · simp only [Act.put, List.setIfInBounds_toArray, List.set_cons_zero, List.set_cons_succ, i64_w, i32_w]
      rfl
    refine one_ (i := 19) (N := some 34) #[true, true, true, true, true, true, true, true, true, true, true, true, true, true, true, true, true, true, true, true, false] rfl rfl (one_of HT_.out (by kernel_rfl)) (by decide) (fun K hK => ?_)
    refine goes_ Try.func220 (by kernel_rfl) rfl #[.int .i64 (wrap64 ((wrap64 (a0_0 * t1076)) + (wrap64 (a1_0 * (wrap64 (Int.tdiv (wrap64 (a0_1 * t1076)) a1_1)))))), .int .i64 (wrap64 (a0_1 * t1076))] (by rfl) rfl rfl (by (try simp only [List.map_toArray, List.map_cons, List.map_nil]); first | done | rfl | (simp only [List.length_drop, List.length_take]; rfl)) ?_
    with_reducible refine (impl_fractionOf.calls k (wrap64 ((wrap64 (a0_0 * t1076)) + (wrap64 (a1_0 * (wrap64 (Int.tdiv (wrap64 (a0_1 * t1076)) a1_1)))))) (wrap64 (a0_1 * t1076)) t1077 t1078 _ A5.out).mono ?_
    rintro e w15 ⟨rfl, hb⟩
    refine ⟨_, rfl, ?_⟩
    have n0_ := Aside0.mk (blk_below (g := gb1072) (o := .cells #[.int .i64 a0_0, .int .i64 a0_1] 147 (0, 0)) (by (with_reducible repeat (first | refine blk_drewN ?_ _ | refine blk_drew ?_ | refine blk_alloc ?_ _)); exact BK1072.out) hb)
    have n1_ := Aside0.mk (blk_below (g := gb1073) (o := .cells #[.int .i64 a1_0, .int .i64 a1_1] 147 (0, 0)) (by (with_reducible repeat (first | refine blk_drewN ?_ _ | refine blk_drew ?_ | refine blk_alloc ?_ _)); exact BK1073.out) hb)
    have n2_ := Aside0.mk (blk_below (g := gb1074) (o := .cells #[.int .i64 0, .int .i64 0] 147 (0, 0)) (by (with_reducible repeat (first | refine blk_drewN ?_ _ | refine blk_drew ?_ | refine blk_alloc ?_ _)); exact BK1074.out) hb)
    have n3_ := Aside0.mk (below_step (by repeat (first | (with_reducible first | exact HB.out | apply below_alloc | apply pw_below_drewN | apply below_drew1 | refine below_set ?_ GE1072.out | refine below_set ?_ GE1073.out | refine below_set ?_ GE1074.out) | exact HB.out)) hb)
    clear BK1072
    clear BK1073
    clear BK1074
    clear HB
    have BK1072 := n0_
    have BK1073 := n1_
    have BK1074 := n2_
    have HB := n3_
    clear n0_ n1_ n2_ n3_
    (try clear hb)
    (try clear hb2)
    (try clear hk)
    (try clear hi)
    refine hK.out _ _ ⟨(blk_cell BK1072.out 0).trans rfl, (blk_cell BK1072.out 1).trans rfl, (blk_cell BK1073.out 0).trans rfl, (blk_cell BK1073.out 1).trans rfl⟩ (fun hHeld => ?_)
    clear hK K
    refine norm_ (a' := ?_) ?_ ?_
    rotate_left
    · show Act.put _ (some 34) _ = _
      simp only [Act.put, List.setIfInBounds_toArray, List.set_cons_zero, List.set_cons_succ, i64_w, i32_w]
      rfl
    refine one_ (i := 20) (N := none) #[true, true, true, true, true, true, true, true, true, true, true, true, true, true, true, true, true, true, true, true, true] rfl rfl (one_of HT_.out (by kernel_rfl)) (by decide) (fun K hK => ?_)
    have hs16 : w15.cell? ⟨gb1074, 0, none⟩ = some (.int .i64 0) := (blk_cell BK1074.out 0).trans rfl
    have hfs16 := blk_frozen BK1074.out 0
    have hns16_0 := NB1072_1074.out
    have hns16_1 := NB1073_1074.out
    have hms16_0 := NB1074_1072.out
    have hms16_1 := NB1074_1073.out
    have hs17 : w15.cell? ⟨gb1074, 1, none⟩ = some (.int .i64 0) := (blk_cell BK1074.out 1).trans rfl
    have hfs17 := blk_frozen BK1074.out 1
    have hns17_0 := NB1072_1074.out
    have hns17_1 := NB1073_1074.out
    have hms17_0 := NB1074_1072.out
    have hms17_1 := NB1074_1073.out
    refine skip_ (w1 := ?_) (by rfl) rfl ?_ ?_
    rotate_left
    · go_simp
      rfl
    refine hK.out _ _ ⟨((cell_far (p := ⟨gb1074, _, none⟩) NB1072_1074.out _).trans (((cell_far (p := ⟨gb1074, _, none⟩) NB1072_1074.out _).trans (hHeld.1)))), ((cell_far (p := ⟨gb1074, _, none⟩) NB1072_1074.out _).trans (((cell_far (p := ⟨gb1074, _, none⟩) NB1072_1074.out _).trans (hHeld.2.1)))), ((cell_far (p := ⟨gb1074, _, none⟩) NB1073_1074.out _).trans (((cell_far (p := ⟨gb1074, _, none⟩) NB1073_1074.out _).trans (hHeld.2.2.1)))), ((cell_far (p := ⟨gb1074, _, none⟩) NB1073_1074.out _).trans (((cell_far (p := ⟨gb1074, _, none⟩) NB1073_1074.out _).trans (hHeld.2.2.2))))⟩ (fun hHeld => ?_)
    clear hK K
    refine done_ (done_of HT_.out (by kernel_rfl)) ?_
    try go_wp2
    refine bodyPost_ret (results_cell_row rfl _ _ gb1074 147 #[.int .i64 t1077, .int .i64 t1078] (0, 0) _ rfl (by (with_reducible repeat (first | refine blk_drewN ?_ _ | refine blk_drew ?_ | refine blk_alloc ?_ _)); refine blk_put (cs := #[.int .i64 t1077, .int .i64 0]) ?_ 1 _ rfl; (with_reducible repeat (first | refine blk_drewN ?_ _ | refine blk_drew ?_ | refine blk_alloc ?_ _)); refine blk_put (cs := #[.int .i64 0, .int .i64 0]) ?_ 0 _ rfl; (with_reducible repeat (first | refine blk_drewN ?_ _ | refine blk_drew ?_ | refine blk_alloc ?_ _)); exact BK1074.out) Try.underlying147 rfl (by kernel_rfl)) rfl ?_
    exact ⟨by first | rfl | (simp [errW_none, errW_some] <;> rfl) | (simp [*, errW_none, errW_some] <;> rfl), by repeat (first | (with_reducible first | exact HB.out | apply below_alloc | apply pw_below_drewN | apply below_drew1 | refine below_set ?_ GE1072.out | refine below_set ?_ GE1073.out | refine below_set ?_ GE1074.out) | exact HB.out)⟩
end Go.Proofs.Ytgahigmpcgfbeaa.P
end

section
namespace Go.Proofs.Ytgahigmpcgfbeaa.P
open Go.RowKit Go.Proofs.YtgahigmpcgfbeaaW.PrintWords Go.Proofs.YtgahigmpcgfbeaaW.PrintLast Go.Proofs.YtgahigmpcgfbeaaW.PrintMore
attribute [local go_sem] max2_int min2_int max_two min_two max_three min_three max_four min_four
set_option linter.unusedVariables false
set_option linter.unusedSimpArgs false
def impl_fraction_minus.f (k : Nat) (a0_0 : Int) (a0_1 : Int) (a1_0 : Int) (a1_1 : Int) : Option (Int × Int) := (impl_fraction_plus.f k a0_0 a0_1 (wrap64 (-a1_0)) a1_1).bind fun bt1082 => (some (bt1082.1, bt1082.2))
theorem impl_fraction_minus.mono : ∀ a0 a1 a2 a3 k, LeO (impl_fraction_minus.f k a0 a1 a2 a3) (impl_fraction_minus.f (k + 1) a0 a1 a2 a3) := by
  intro a0 a1 a2 a3 k
  unfold impl_fraction_minus.f
  repeat' first
      | (with_reducible exact impl_fraction_plus.mono _ _ _ _ _)
      | (with_reducible exact LeO.refl _)
      | (with_reducible exact LeO.none _)
      | (with_reducible refine LeO.ite ?_ ?_)
      | (with_reducible refine LeO.bind ?_ (fun _ => ?_))
      | exact impl_fraction_plus.mono _ _ _ _ _
      | exact LeO.none _
      | refine LeO.ite ?_ ?_
      | refine LeO.bind ?_ (fun _ => ?_)
set_option maxHeartbeats 8000000 in
set_option maxRecDepth 100000 in
theorem impl_fraction_minus.calls (k : Nat) (a0_0 : Int) (a0_1 : Int) (a1_0 : Int) (a1_1 : Int) (r1 : Int) (r2 : Int) (w : World) (h : impl_fraction_minus.f k a0_0 a0_1 a1_0 a1_1 = some (r1, r2)) :
    Calls Try.prog 300 #[.agg #[.int .i64 a0_0, .int .i64 a0_1], .agg #[.int .i64 a1_0, .int .i64 a1_1]] w fun e w' => e = .returned (.agg #[.int .i64 r1, .int .i64 r2]) ∧ Below w.heap.size w w' := by
  have hu147 := Try.underlying147
  have HB := Aside0.mk (Below.refl w.heap.size w)
  have H : ((impl_fraction_plus.f k a0_0 a0_1 (wrap64 (-a1_0)) a1_1).bind fun bt1082 => (some (bt1082.1, bt1082.2))) = some (r1, r2) := h
  clear h
  replace H := Option.bind_eq_some_iff.mp H
  obtain ⟨⟨t1082, t1083⟩, A30, H⟩ := H
  replace H : (some (t1082, t1083)) = some (r1, r2) := H
  have A3 := Aside0.mk A30
  clear A30
  simp only [Option.some.injEq, Prod.mk.injEq] at H
  obtain ⟨rfl, rfl⟩ := H
  go_enter Try.func300, Try.ntmps300
  go_wp2_with (first | ((with_reducible refine gate_dst (N := 2) rfl ?_); refine box_event ?hg (N := 2) ?hd (cs := #[.int .i64 a0_0, .int .i64 a0_1]) (t := 147) ?hr ?_; (case hd => rfl); (case hg => rfl); (case hr => first | (go_simp; done) | (go_simp; rfl)); intro gb1079 hg w4 hbox hb; have n0_ := Aside0.mk (below_step (by repeat (first | (with_reducible first | exact HB.out | apply below_alloc | apply pw_below_drewN | apply below_drew1) | exact HB.out)) hb); have n1_ := Aside0.mk (hbox); have n2_ := Aside0.mk ((by rw [hg]; exact (below_size (by repeat (first | (with_reducible first | exact HB.out | apply below_alloc | apply pw_below_drewN | apply below_drew1) | exact HB.out))) : w.heap.size ≤ gb1079)); have n3_ := Aside0.mk ((by rw [hg]; exact (below_size (by repeat (first | (with_reducible first | exact HB.out | apply below_alloc | apply pw_below_drewN | apply below_drew1) | exact HB.out))) : w.heap.size ≤ gb1079)); clear HB; have HB := n0_; have BK1079 := n1_; have GW1079 := n2_; have GE1079 := n3_; clear n0_ n1_ n2_ n3_; clear hb hbox hg) | ((with_reducible refine gate_dst (N := 3) rfl ?_); refine box_event ?hg (N := 3) ?hd (cs := #[.int .i64 a1_0, .int .i64 a1_1]) (t := 147) ?hr ?_; (case hd => rfl); (case hg => rfl); (case hr => first | (go_simp; done) | (go_simp; rfl)); intro gb1080 hg w5 hbox hb; have n0_ := Aside0.mk (blk_below (g := gb1079) (o := .cells #[.int .i64 a0_0, .int .i64 a0_1] 147 (0, 0)) (by (with_reducible repeat (first | refine blk_drewN ?_ _ | refine blk_drew ?_ | refine blk_alloc ?_ _)); exact BK1079.out) hb); have n1_ := Aside0.mk (below_step (by repeat (first | (with_reducible first | exact HB.out | apply below_alloc | apply pw_below_drewN | apply below_drew1 | refine below_set ?_ GE1079.out) | exact HB.out)) hb); have n2_ := Aside0.mk (hbox); have n3_ := Aside0.mk ((by rw [hg]; exact (below_size (by repeat (first | (with_reducible first | exact HB.out | apply below_alloc | apply pw_below_drewN | apply below_drew1 | refine below_set ?_ GE1079.out) | exact HB.out))) : w.heap.size ≤ gb1080)); have n4_ := Aside0.mk ((by rw [hg]; exact (below_size (by repeat (first | (with_reducible first | exact HB.out | apply below_alloc | apply pw_below_drewN | apply below_drew1 | refine below_set ?_ GE1079.out) | exact HB.out))) : w.heap.size ≤ gb1080)); have n5_ := Aside0.mk ((by rw [hg]; exact Nat.ne_of_lt (blk_lt (g := gb1079) (o := .cells #[.int .i64 a0_0, .int .i64 a0_1] 147 (0, 0)) (by (with_reducible repeat (first | refine blk_drewN ?_ _ | refine blk_drew ?_ | refine blk_alloc ?_ _)); exact BK1079.out)) : gb1079 ≠ gb1080)); have n6_ := Aside0.mk ((by rw [hg]; exact Nat.ne_of_gt (blk_lt (g := gb1079) (o := .cells #[.int .i64 a0_0, .int .i64 a0_1] 147 (0, 0)) (by (with_reducible repeat (first | refine blk_drewN ?_ _ | refine blk_drew ?_ | refine blk_alloc ?_ _)); exact BK1079.out)) : gb1080 ≠ gb1079)); clear BK1079; clear HB; have BK1079 := n0_; have HB := n1_; have BK1080 := n2_; have GW1080 := n3_; have GE1080 := n4_; have NB1079_1080 := n5_; have NB1080_1079 := n6_; clear n0_ n1_ n2_ n3_ n4_ n5_ n6_; clear hb hbox hg) | ((with_reducible refine gate_dst (N := 4) rfl ?_); refine box_event ?hg (N := 4) ?hd (cs := #[.int .i64 0, .int .i64 0]) (t := 147) ?hr ?_; (case hd => rfl); (case hg => rfl); (case hr => first | (go_simp; done) | (go_simp; rfl)); intro gb1081 hg w6 hbox hb; have n0_ := Aside0.mk (blk_below (g := gb1079) (o := .cells #[.int .i64 a0_0, .int .i64 a0_1] 147 (0, 0)) (by (with_reducible repeat (first | refine blk_drewN ?_ _ | refine blk_drew ?_ | refine blk_alloc ?_ _)); exact BK1079.out) hb); have n1_ := Aside0.mk (blk_below (g := gb1080) (o := .cells #[.int .i64 a1_0, .int .i64 a1_1] 147 (0, 0)) (by (with_reducible repeat (first | refine blk_drewN ?_ _ | refine blk_drew ?_ | refine blk_alloc ?_ _)); exact BK1080.out) hb); have n2_ := Aside0.mk (below_step (by repeat (first | (with_reducible first | exact HB.out | apply below_alloc | apply pw_below_drewN | apply below_drew1 | refine below_set ?_ GE1079.out | refine below_set ?_ GE1080.out) | exact HB.out)) hb); have n3_ := Aside0.mk (hbox); have n4_ := Aside0.mk ((by rw [hg]; exact (below_size (by repeat (first | (with_reducible first | exact HB.out | apply below_alloc | apply pw_below_drewN | apply below_drew1 | refine below_set ?_ GE1079.out | refine below_set ?_ GE1080.out) | exact HB.out))) : w.heap.size ≤ gb1081)); have n5_ := Aside0.mk ((by rw [hg]; exact (below_size (by repeat (first | (with_reducible first | exact HB.out | apply below_alloc | apply pw_below_drewN | apply below_drew1 | refine below_set ?_ GE1079.out | refine below_set ?_ GE1080.out) | exact HB.out))) : w.heap.size ≤ gb1081)); have n6_ := Aside0.mk ((by rw [hg]; exact Nat.ne_of_lt (blk_lt (g := gb1079) (o := .cells #[.int .i64 a0_0, .int .i64 a0_1] 147 (0, 0)) (by (with_reducible repeat (first | refine blk_drewN ?_ _ | refine blk_drew ?_ | refine blk_alloc ?_ _)); exact BK1079.out)) : gb1079 ≠ gb1081)); have n7_ := Aside0.mk ((by rw [hg]; exact Nat.ne_of_gt (blk_lt (g := gb1079) (o := .cells #[.int .i64 a0_0, .int .i64 a0_1] 147 (0, 0)) (by (with_reducible repeat (first | refine blk_drewN ?_ _ | refine blk_drew ?_ | refine blk_alloc ?_ _)); exact BK1079.out)) : gb1081 ≠ gb1079)); have n8_ := Aside0.mk ((by rw [hg]; exact Nat.ne_of_lt (blk_lt (g := gb1080) (o := .cells #[.int .i64 a1_0, .int .i64 a1_1] 147 (0, 0)) (by (with_reducible repeat (first | refine blk_drewN ?_ _ | refine blk_drew ?_ | refine blk_alloc ?_ _)); exact BK1080.out)) : gb1080 ≠ gb1081)); have n9_ := Aside0.mk ((by rw [hg]; exact Nat.ne_of_gt (blk_lt (g := gb1080) (o := .cells #[.int .i64 a1_0, .int .i64 a1_1] 147 (0, 0)) (by (with_reducible repeat (first | refine blk_drewN ?_ _ | refine blk_drew ?_ | refine blk_alloc ?_ _)); exact BK1080.out)) : gb1081 ≠ gb1080)); clear BK1079; clear BK1080; clear HB; have BK1079 := n0_; have BK1080 := n1_; have HB := n2_; have BK1081 := n3_; have GW1081 := n4_; have GE1081 := n5_; have NB1079_1081 := n6_; have NB1081_1079 := n7_; have NB1080_1081 := n8_; have NB1081_1080 := n9_; clear n0_ n1_ n2_ n3_ n4_ n5_ n6_ n7_ n8_ n9_; clear hb hbox hg; have hnb7 := NB1079_1080.out; have hnc7 := NB1080_1079.out; have hnb8 := NB1079_1081.out; have hnc8 := NB1081_1079.out; have hcz9_0 : w6.cell? ⟨gb1079, 0, none⟩ = some (.int .i64 a0_0) := (blk_cell BK1079.out 0).trans rfl; have hcz9_1 : w6.cell? ⟨gb1079, 1, none⟩ = some (.int .i64 a0_1) := (blk_cell BK1079.out 1).trans rfl; have hfz9_0 := blk_frozen BK1079.out 0; have hfz9_1 := blk_frozen BK1079.out 1; have hnb10 := NB1080_1081.out; have hnc10 := NB1081_1080.out; have hcz11_0 : w6.cell? ⟨gb1080, 0, none⟩ = some (.int .i64 a1_0) := (blk_cell BK1080.out 0).trans rfl; have hcz11_1 : w6.cell? ⟨gb1080, 1, none⟩ = some (.int .i64 a1_1) := (blk_cell BK1080.out 1).trans rfl; have hfz11_0 := blk_frozen BK1080.out 0; have hfz11_1 := blk_frozen BK1080.out 1) | ((with_reducible refine gate_callee (f := 219) rfl ?_); refine goesL_ (some 12) rfl rfl Try.func219 (by kernel_rfl) rfl #[.agg #[.int .i64 a0_0, .int .i64 a0_1], .agg #[.int .i64 (wrap64 (-a1_0)), .int .i64 a1_1]] rfl (by (try simp only [List.map_toArray, List.map_cons, List.map_nil]); first | done | rfl | (simp only [List.length_drop, List.length_take]; rfl)) ?_; (with_reducible refine (impl_fraction_plus.calls k a0_0 a0_1 (wrap64 (-a1_0)) a1_1 t1082 t1083 _ A3.out).mono ?_); rintro e w12 ⟨rfl, hb⟩; refine ⟨_, rfl, ?_⟩; have n0_ := Aside0.mk (blk_below (g := gb1079) (o := .cells #[.int .i64 a0_0, .int .i64 a0_1] 147 (0, 0)) (by (with_reducible repeat (first | refine blk_drewN ?_ _ | refine blk_drew ?_ | refine blk_alloc ?_ _)); exact BK1079.out) hb); have n1_ := Aside0.mk (blk_below (g := gb1080) (o := .cells #[.int .i64 a1_0, .int .i64 a1_1] 147 (0, 0)) (by (with_reducible repeat (first | refine blk_drewN ?_ _ | refine blk_drew ?_ | refine blk_alloc ?_ _)); exact BK1080.out) hb); have n2_ := Aside0.mk (blk_below (g := gb1081) (o := .cells #[.int .i64 0, .int .i64 0] 147 (0, 0)) (by (with_reducible repeat (first | refine blk_drewN ?_ _ | refine blk_drew ?_ | refine blk_alloc ?_ _)); exact BK1081.out) hb); have n3_ := Aside0.mk (below_step (by repeat (first | (with_reducible first | exact HB.out | apply below_alloc | apply pw_below_drewN | apply below_drew1 | refine below_set ?_ GE1079.out | refine below_set ?_ GE1080.out | refine below_set ?_ GE1081.out) | exact HB.out)) hb); clear BK1079; clear BK1080; clear BK1081; clear HB; have BK1079 := n0_; have BK1080 := n1_; have BK1081 := n2_; have HB := n3_; clear n0_ n1_ n2_ n3_; (try clear hb); (try clear hb2); (try clear hk); (try clear hi); have hcz13_0 : w12.cell? ⟨gb1081, 0, none⟩ = some (.int .i64 0) := (blk_cell BK1081.out 0).trans rfl; have hcz13_1 : w12.cell? ⟨gb1081, 1, none⟩ = some (.int .i64 0) := (blk_cell BK1081.out 1).trans rfl; have hfz13_0 := blk_frozen BK1081.out 0; have hfz13_1 := blk_frozen BK1081.out 1))
  refine bodyPost_ret (results_cell_row rfl _ _ gb1081 147 #[.int .i64 t1082, .int .i64 t1083] (0, 0) _ rfl (by (with_reducible repeat (first | refine blk_drewN ?_ _ | refine blk_drew ?_ | refine blk_alloc ?_ _)); refine blk_put (cs := #[.int .i64 t1082, .int .i64 0]) ?_ 1 _ rfl; (with_reducible repeat (first | refine blk_drewN ?_ _ | refine blk_drew ?_ | refine blk_alloc ?_ _)); refine blk_put (cs := #[.int .i64 0, .int .i64 0]) ?_ 0 _ rfl; (with_reducible repeat (first | refine blk_drewN ?_ _ | refine blk_drew ?_ | refine blk_alloc ?_ _)); exact BK1081.out) Try.underlying147 rfl (by kernel_rfl)) rfl ?_
  exact ⟨by first | rfl | (simp [errW_none, errW_some] <;> rfl) | (simp [*, errW_none, errW_some] <;> rfl), by repeat (first | (with_reducible first | exact HB.out | apply below_alloc | apply pw_below_drewN | apply below_drew1 | refine below_set ?_ GE1079.out | refine below_set ?_ GE1080.out | refine below_set ?_ GE1081.out) | exact HB.out)⟩
end Go.Proofs.Ytgahigmpcgfbeaa.P
end

section
namespace Go.Proofs.Ytgahigmpcgfbeaa.P
open Go.RowKit Go.Proofs.YtgahigmpcgfbeaaW.PrintWords Go.Proofs.YtgahigmpcgfbeaaW.PrintLast Go.Proofs.YtgahigmpcgfbeaaW.PrintMore
attribute [local go_sem] max2_int min2_int max_two min_two max_three min_three max_four min_four
set_option linter.unusedVariables false
set_option linter.unusedSimpArgs false
def impl_fraction_compare.f (k : Nat) (a0_0 : Int) (a0_1 : Int) (a1_0 : Int) (a1_1 : Int) : Option (Int) := (impl_fraction_minus.f k a0_0 a0_1 a1_0 a1_1).bind fun bt1086 => (some (mn 1 (mx (-1) bt1086.1)))
theorem impl_fraction_compare.mono : ∀ a0 a1 a2 a3 k, LeO (impl_fraction_compare.f k a0 a1 a2 a3) (impl_fraction_compare.f (k + 1) a0 a1 a2 a3) := by
  intro a0 a1 a2 a3 k
  unfold impl_fraction_compare.f
  repeat' first
      | (with_reducible exact impl_fraction_minus.mono _ _ _ _ _)
      | (with_reducible exact LeO.refl _)
      | (with_reducible exact LeO.none _)
      | (with_reducible refine LeO.ite ?_ ?_)
      | (with_reducible refine LeO.bind ?_ (fun _ => ?_))
      | exact impl_fraction_minus.mono _ _ _ _ _
      | exact LeO.none _
      | refine LeO.ite ?_ ?_
      | refine LeO.bind ?_ (fun _ => ?_)
set_option maxHeartbeats 8000000 in
set_option maxRecDepth 100000 in
theorem impl_fraction_compare.calls (k : Nat) (a0_0 : Int) (a0_1 : Int) (a1_0 : Int) (a1_1 : Int) (r : Int) (w : World) (h : impl_fraction_compare.f k a0_0 a0_1 a1_0 a1_1 = some r) :
    Calls Try.prog 289 #[.agg #[.int .i64 a0_0, .int .i64 a0_1], .agg #[.int .i64 a1_0, .int .i64 a1_1]] w fun e w' => e = .returned (.int .i64 r) ∧ Below w.heap.size w w' := by
  have hu147 := Try.underlying147
  have HB := Aside0.mk (Below.refl w.heap.size w)
  have H : ((impl_fraction_minus.f k a0_0 a0_1 a1_0 a1_1).bind fun bt1086 => (some (mn 1 (mx (-1) bt1086.1)))) = some r := h
  clear h
  replace H := Option.bind_eq_some_iff.mp H
  obtain ⟨⟨t1086, t1087⟩, A30, H⟩ := H
  replace H : (some (mn 1 (mx (-1) t1086))) = some r := H
  have A3 := Aside0.mk A30
  clear A30
  obtain ⟨ji4, hji4⟩ : ∃ j_ : Int, (mx (-1) t1086) = j_ := ⟨_, rfl⟩
  replace H : (some (mn 1 (ji4))) = some r := by first | (rw [hji4] at H; exact H) | (simp only [hji4] at H ⊢; exact H)
  (try rw [hji4] at A3)
  have hji4_ : (if (-1) < t1086 then t1086 else (-1)) = ji4 := hji4
  obtain ⟨ji5, hji5⟩ : ∃ j_ : Int, (mn 1 (ji4)) = j_ := ⟨_, rfl⟩
  replace H : (some ji5) = some r := by first | (rw [hji5] at H; exact H) | (simp only [hji5] at H ⊢; exact H)
  (try rw [hji5] at A3)
  have hji5_ : (if (ji4) < 1 then (ji4) else 1) = ji5 := hji5
  obtain rfl := Option.some.inj H
  go_enter Try.func289, Try.ntmps289
  go_wp2_with (first | ((with_reducible refine gate_dst (N := 2) rfl ?_); refine box_event ?hg (N := 2) ?hd (cs := #[.int .i64 a0_0, .int .i64 a0_1]) (t := 147) ?hr ?_; (case hd => rfl); (case hg => rfl); (case hr => first | (go_simp; done) | (go_simp; rfl)); intro gb1084 hg w6 hbox hb; have n0_ := Aside0.mk (below_step (by repeat (first | (with_reducible first | exact HB.out | apply below_alloc | apply pw_below_drewN | apply below_drew1) | exact HB.out)) hb); have n1_ := Aside0.mk (hbox); have n2_ := Aside0.mk ((by rw [hg]; exact (below_size (by repeat (first | (with_reducible first | exact HB.out | apply below_alloc | apply pw_below_drewN | apply below_drew1) | exact HB.out))) : w.heap.size ≤ gb1084)); have n3_ := Aside0.mk ((by rw [hg]; exact (below_size (by repeat (first | (with_reducible first | exact HB.out | apply below_alloc | apply pw_below_drewN | apply below_drew1) | exact HB.out))) : w.heap.size ≤ gb1084)); clear HB; have HB := n0_; have BK1084 := n1_; have GW1084 := n2_; have GE1084 := n3_; clear n0_ n1_ n2_ n3_; clear hb hbox hg) | ((with_reducible refine gate_dst (N := 3) rfl ?_); refine box_event ?hg (N := 3) ?hd (cs := #[.int .i64 a1_0, .int .i64 a1_1]) (t := 147) ?hr ?_; (case hd => rfl); (case hg => rfl); (case hr => first | (go_simp; done) | (go_simp; rfl)); intro gb1085 hg w7 hbox hb; have n0_ := Aside0.mk (blk_below (g := gb1084) (o := .cells #[.int .i64 a0_0, .int .i64 a0_1] 147 (0, 0)) (by (with_reducible repeat (first | refine blk_drewN ?_ _ | refine blk_drew ?_ | refine blk_alloc ?_ _)); exact BK1084.out) hb); have n1_ := Aside0.mk (below_step (by repeat (first | (with_reducible first | exact HB.out | apply below_alloc | apply pw_below_drewN | apply below_drew1 | refine below_set ?_ GE1084.out) | exact HB.out)) hb); have n2_ := Aside0.mk (hbox); have n3_ := Aside0.mk ((by rw [hg]; exact (below_size (by repeat (first | (with_reducible first | exact HB.out | apply below_alloc | apply pw_below_drewN | apply below_drew1 | refine below_set ?_ GE1084.out) | exact HB.out))) : w.heap.size ≤ gb1085)); have n4_ := Aside0.mk ((by rw [hg]; exact (below_size (by repeat (first | (with_reducible first | exact HB.out | apply below_alloc | apply pw_below_drewN | apply below_drew1 | refine below_set ?_ GE1084.out) | exact HB.out))) : w.heap.size ≤ gb1085)); have n5_ := Aside0.mk ((by rw [hg]; exact Nat.ne_of_lt (blk_lt (g := gb1084) (o := .cells #[.int .i64 a0_0, .int .i64 a0_1] 147 (0, 0)) (by (with_reducible repeat (first | refine blk_drewN ?_ _ | refine blk_drew ?_ | refine blk_alloc ?_ _)); exact BK1084.out)) : gb1084 ≠ gb1085)); have n6_ := Aside0.mk ((by rw [hg]; exact Nat.ne_of_gt (blk_lt (g := gb1084) (o := .cells #[.int .i64 a0_0, .int .i64 a0_1] 147 (0, 0)) (by (with_reducible repeat (first | refine blk_drewN ?_ _ | refine blk_drew ?_ | refine blk_alloc ?_ _)); exact BK1084.out)) : gb1085 ≠ gb1084)); clear BK1084; clear HB; have BK1084 := n0_; have HB := n1_; have BK1085 := n2_; have GW1085 := n3_; have GE1085 := n4_; have NB1084_1085 := n5_; have NB1085_1084 := n6_; clear n0_ n1_ n2_ n3_ n4_ n5_ n6_; clear hb hbox hg; have hnb8 := NB1084_1085.out; have hnc8 := NB1085_1084.out; have hcz9_0 : w7.cell? ⟨gb1084, 0, none⟩ = some (.int .i64 a0_0) := (blk_cell BK1084.out 0).trans rfl; have hcz9_1 : w7.cell? ⟨gb1084, 1, none⟩ = some (.int .i64 a0_1) := (blk_cell BK1084.out 1).trans rfl; have hfz9_0 := blk_frozen BK1084.out 0; have hfz9_1 := blk_frozen BK1084.out 1; have hcz10_0 : w7.cell? ⟨gb1085, 0, none⟩ = some (.int .i64 a1_0) := (blk_cell BK1085.out 0).trans rfl; have hcz10_1 : w7.cell? ⟨gb1085, 1, none⟩ = some (.int .i64 a1_1) := (blk_cell BK1085.out 1).trans rfl; have hfz10_0 := blk_frozen BK1085.out 0; have hfz10_1 := blk_frozen BK1085.out 1) | ((with_reducible refine gate_callee (f := 300) rfl ?_); refine goesL_ (some 8) rfl rfl Try.func300 (by kernel_rfl) rfl #[.agg #[.int .i64 a0_0, .int .i64 a0_1], .agg #[.int .i64 a1_0, .int .i64 a1_1]] rfl (by (try simp only [List.map_toArray, List.map_cons, List.map_nil]); first | done | rfl | (simp only [List.length_drop, List.length_take]; rfl)) ?_; (with_reducible refine (impl_fraction_minus.calls k a0_0 a0_1 a1_0 a1_1 t1086 t1087 _ A3.out).mono ?_); rintro e w11 ⟨rfl, hb⟩; refine ⟨_, rfl, ?_⟩; have n0_ := Aside0.mk (blk_below (g := gb1084) (o := .cells #[.int .i64 a0_0, .int .i64 a0_1] 147 (0, 0)) (by (with_reducible repeat (first | refine blk_drewN ?_ _ | refine blk_drew ?_ | refine blk_alloc ?_ _)); exact BK1084.out) hb); have n1_ := Aside0.mk (blk_below (g := gb1085) (o := .cells #[.int .i64 a1_0, .int .i64 a1_1] 147 (0, 0)) (by (with_reducible repeat (first | refine blk_drewN ?_ _ | refine blk_drew ?_ | refine blk_alloc ?_ _)); exact BK1085.out) hb); have n2_ := Aside0.mk (below_step (by repeat (first | (with_reducible first | exact HB.out | apply below_alloc | apply pw_below_drewN | apply below_drew1 | refine below_set ?_ GE1084.out | refine below_set ?_ GE1085.out) | exact HB.out)) hb); clear BK1084; clear BK1085; clear HB; have BK1084 := n0_; have BK1085 := n1_; have HB := n2_; clear n0_ n1_ n2_; (try clear hb); (try clear hb2); (try clear hk); (try clear hi)) | ((with_reducible refine gate_dst (N := 5) rfl ?_); refine box_event ?hg (N := 5) ?hd (cs := #[.int .i64 0, .int .i64 0]) (t := 147) ?hr ?_; (case hd => rfl); (case hg => rfl); (case hr => first | (go_simp; done) | (go_simp; rfl)); intro gb1088 hg w12 hbox hb; have n0_ := Aside0.mk (blk_below (g := gb1084) (o := .cells #[.int .i64 a0_0, .int .i64 a0_1] 147 (0, 0)) (by (with_reducible repeat (first | refine blk_drewN ?_ _ | refine blk_drew ?_ | refine blk_alloc ?_ _)); exact BK1084.out) hb); have n1_ := Aside0.mk (blk_below (g := gb1085) (o := .cells #[.int .i64 a1_0, .int .i64 a1_1] 147 (0, 0)) (by (with_reducible repeat (first | refine blk_drewN ?_ _ | refine blk_drew ?_ | refine blk_alloc ?_ _)); exact BK1085.out) hb); have n2_ := Aside0.mk (below_step (by repeat (first | (with_reducible first | exact HB.out | apply below_alloc | apply pw_below_drewN | apply below_drew1 | refine below_set ?_ GE1084.out | refine below_set ?_ GE1085.out) | exact HB.out)) hb); have n3_ := Aside0.mk (hbox); have n4_ := Aside0.mk ((by rw [hg]; exact (below_size (by repeat (first | (with_reducible first | exact HB.out | apply below_alloc | apply pw_below_drewN | apply below_drew1 | refine below_set ?_ GE1084.out | refine below_set ?_ GE1085.out) | exact HB.out))) : w.heap.size ≤ gb1088)); have n5_ := Aside0.mk ((by rw [hg]; exact (below_size (by repeat (first | (with_reducible first | exact HB.out | apply below_alloc | apply pw_below_drewN | apply below_drew1 | refine below_set ?_ GE1084.out | refine below_set ?_ GE1085.out) | exact HB.out))) : w.heap.size ≤ gb1088)); have n6_ := Aside0.mk ((by rw [hg]; exact Nat.ne_of_lt (blk_lt (g := gb1084) (o := .cells #[.int .i64 a0_0, .int .i64 a0_1] 147 (0, 0)) (by (with_reducible repeat (first | refine blk_drewN ?_ _ | refine blk_drew ?_ | refine blk_alloc ?_ _)); exact BK1084.out)) : gb1084 ≠ gb1088)); have n7_ := Aside0.mk ((by rw [hg]; exact Nat.ne_of_gt (blk_lt (g := gb1084) (o := .cells #[.int .i64 a0_0, .int .i64 a0_1] 147 (0, 0)) (by (with_reducible repeat (first | refine blk_drewN ?_ _ | refine blk_drew ?_ | refine blk_alloc ?_ _)); exact BK1084.out)) : gb1088 ≠ gb1084)); have n8_ := Aside0.mk ((by rw [hg]; exact Nat.ne_of_lt (blk_lt (g := gb1085) (o := .cells #[.int .i64 a1_0, .int .i64 a1_1] 147 (0, 0)) (by (with_reducible repeat (first | refine blk_drewN ?_ _ | refine blk_drew ?_ | refine blk_alloc ?_ _)); exact BK1085.out)) : gb1085 ≠ gb1088)); have n9_ := Aside0.mk ((by rw [hg]; exact Nat.ne_of_gt (blk_lt (g := gb1085) (o := .cells #[.int .i64 a1_0, .int .i64 a1_1] 147 (0, 0)) (by (with_reducible repeat (first | refine blk_drewN ?_ _ | refine blk_drew ?_ | refine blk_alloc ?_ _)); exact BK1085.out)) : gb1088 ≠ gb1085)); clear BK1084; clear BK1085; clear HB; have BK1084 := n0_; have BK1085 := n1_; have HB := n2_; have BK1088 := n3_; have GW1088 := n4_; have GE1088 := n5_; have NB1084_1088 := n6_; have NB1088_1084 := n7_; have NB1085_1088 := n8_; have NB1088_1085 := n9_; clear n0_ n1_ n2_ n3_ n4_ n5_ n6_ n7_ n8_ n9_; clear hb hbox hg; have hnb13 := NB1088_1084.out; have hnc13 := NB1084_1088.out; have hnb14 := NB1088_1085.out; have hnc14 := NB1085_1088.out; have hcz15_0 : w12.cell? ⟨gb1088, 0, none⟩ = some (.int .i64 0) := (blk_cell BK1088.out 0).trans rfl; have hcz15_1 : w12.cell? ⟨gb1088, 1, none⟩ = some (.int .i64 0) := (blk_cell BK1088.out 1).trans rfl; have hfz15_0 := blk_frozen BK1088.out 0; have hfz15_1 := blk_frozen BK1088.out 1))
  go_ret
  exact ⟨by first | rfl | (simp [errW_none, errW_some] <;> rfl) | (simp only [← hji4, ← hji5]; first | rfl | (simp [errW_none, errW_some] <;> rfl)) | (simp [*, errW_none, errW_some] <;> rfl), by repeat (first | (with_reducible first | exact HB.out | apply below_alloc | apply pw_below_drewN | apply below_drew1 | refine below_set ?_ GE1084.out | refine below_set ?_ GE1085.out | refine below_set ?_ GE1088.out) | exact HB.out)⟩
end Go.Proofs.Ytgahigmpcgfbeaa.P
end

section
namespace Go.Proofs.Ytgahigmpcgfbeaa.P
open Go.RowKit Go.Proofs.YtgahigmpcgfbeaaW.PrintWords Go.Proofs.YtgahigmpcgfbeaaW.PrintLast Go.Proofs.YtgahigmpcgfbeaaW.PrintMore
attribute [local go_sem] max2_int min2_int max_two min_two max_three min_three max_four min_four
set_option linter.unusedVariables false
set_option linter.unusedSimpArgs false
theorem least_calls (s f a b x0 x1 y0 y1 : Int) (k : Nat) (c : Int) (h : impl_fraction_compare.f k y0 y1 x0 x1 = some c) (w : World) :
    Calls Try.prog 245 #[tw s f a b, .agg #[.int .i64 x0, .int .i64 x1, .int .i64 y0, .int .i64 y1]] w fun e w' => e = .returned (.int .i64 (if c < 0 then 1 else 0)) ∧ Below w.heap.size w w' := by
  have HB := Aside0.mk (below_alloc (below_alloc (Below.refl w.heap.size w) (.cells #[.int .i64 s, .int .i64 f, .int .i64 a, .int .i64 b] 133)) (.cells #[.int .i64 x0, .int .i64 x1, .int .i64 y0, .int .i64 y1] 172))
  go_enter Try.func245, Try.ntmps245
  by_cases hc : c < 0
  · go_wp2_with (go_at_call 289; refine (impl_fraction_compare.calls k y0 y1 x0 x1 c _ h).mono ?_; rintro e w1 ⟨rfl, hb⟩)
    go_ret
    exact ⟨by simp, bT HB.out hb⟩
  · go_wp2_with (go_at_call 289; refine (impl_fraction_compare.calls k y0 y1 x0 x1 c _ h).mono ?_; rintro e w1 ⟨rfl, hb⟩)
    go_ret
    exact ⟨by simp, bT HB.out hb⟩
end Go.Proofs.Ytgahigmpcgfbeaa.P
end
