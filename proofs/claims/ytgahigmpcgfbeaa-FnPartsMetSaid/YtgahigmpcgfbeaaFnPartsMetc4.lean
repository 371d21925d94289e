/- Parts of lists at a square and parts that meet it, of the program, are those of the reference and lie to each other as told; halves and all are done as told: for all bytes from which boards, squares and throws are drawn. -/
import Derived.Test.YtgahigmpcgfbeaaFnPartsMetc3
section
namespace Go.Proofs.Ytgahigmpcgfbeaa.P
open Go.RowKit Go.Proofs.YtgahigmpcgfbeaaW.PrintWords Go.Proofs.YtgahigmpcgfbeaaW.PrintLast Go.Proofs.YtgahigmpcgfbeaaW.PrintMore
attribute [local go_sem] max2_int min2_int max_two min_two max_three min_three max_four min_four
set_option linter.unusedVariables false
set_option linter.unusedSimpArgs false

section
def impl_PartAt.f (k : Nat) (a0_0 : Int) (a0_1 : Int) (a0_2 : Int) (l0_3 : List (S126)) (a1 : Int) (a2 : Int) (a3 : Int) : Option (Int × Int × Bool) := (impl_isThrown.f a0_0 a0_1 a0_2 l0_3 a3 20 (([a1, a2] : List Int))).bind fun t1401 => (if t1401 = true then ((impl_Board_places.f k a0_0 a0_1 a0_2 l0_3 a1 a3).bind fun t1402 => (if 0 ≤ a2 then (if a2 < (t1402.length : Int) then ((impl_Board_part.f k a0_0 a0_1 a0_2 l0_3 (rd t1402 a2) a3).bind fun bt1406 => (some (bt1406.1, bt1406.2.1, bt1406.2.2))) else (none)) else (none))) else (some (0, 0, false)))
theorem impl_PartAt.mono : ∀ a0 a1 a2 a3 a4 a5 a6 k, LeO (impl_PartAt.f k a0 a1 a2 a3 a4 a5 a6) (impl_PartAt.f (k + 1) a0 a1 a2 a3 a4 a5 a6) := by
  (intro a0 a1 a2 a3 a4 a5 a6 k); (unfold impl_PartAt.f); (exact zq63)
def impl_PartAt.T3 : Bool × List (List Nat × List Nat) := (true, [([], []), ([], []), ([], []), ([], []), ([1, 2, 3], [1, 2, 3]), ([], []), ([4, 5], [4, 5]), ([6], [6]), ([], []), ([0, 7, 8, 4], [0, 7, 8]), ([9], [9]), ([9], [9]), ([9], [9]), ([10, 9, 0, 1, 2, 3, 4, 5, 6, 7, 8, 9, 10, 11, 12], [10]), ([11, 13, 0, 1, 2, 3, 4, 5, 6, 7, 8, 9, 10, 11, 12, 13], [11]), ([12, 14, 0, 1, 2, 3, 4, 5, 6, 7, 8, 9, 10, 11, 12, 13, 14], [12])])
def impl_PartAt.B3 : List Nat := [0, 0, 0, 0, 14, 0, 62, 126, 0, 511, 1023, 1023, 1023, 8191, 16383, 32767]
theorem impl_PartAt.tab3 : rtab .any (opsOf Try.f89 3) = impl_PartAt.T3 := by kernel_rfl
theorem impl_PartAt.bits3 : waitsOk impl_PartAt.T3.2 impl_PartAt.B3 = true := by kernel_rfl
set_option maxHeartbeats 8000000 in
set_option maxRecDepth 100000 in
theorem impl_PartAt.calls (k : Nat) (a0_0 : Int) (a0_1 : Int) (a0_2 : Int) (A0_3 : Option Addr) (c0_3 : Nat) (l0_3 : List (S126)) (a1 : Int) (a2 : Int) (a3 : Int) (r1 : Int) (r2 : Int) (r3 : Bool) (w : World) (hr0_3 : Kd.C k126 w A0_3 l0_3.length l0_3) (hc0_3 : l0_3.length ≤ c0_3) (h : impl_PartAt.f k a0_0 a0_1 a0_2 l0_3 a1 a2 a3 = some (r1, r2, r3)) :
    Calls Try.prog 89 #[.agg #[.int .i64 a0_0, .int .i64 a0_1, .int .i64 a0_2, .slice A0_3 l0_3.length c0_3], .int .i64 a1, .int .i64 a2, .int .i64 a3] w fun e w' => e = .returned (.tuple #[.int .i64 r1, .int .i64 r2, .bool r3]) ∧ Below w.heap.size w w' := by
  (have hu31 := Try.underlying31); (have HR0_3 := Aside0.mk hr0_3); (have HC0_3 := Aside0.mk hc0_3); (clear hr0_3 hc0_3); (have HB := Aside0.mk (Below.refl w.heap.size w)); (have H : ((impl_isThrown.f a0_0 a0_1 a0_2 l0_3 a3 20 (([a1, a2] : List Int))).bind fun t1401 => (if t1401 = true then ((impl_Board_places.f k a0_0 a0_1 a0_2 l0_3 a1 a3).bind fun t1402 => (if 0 ≤ a2 then (if a2 < (t1402.length : Int) then ((impl_Board_part.f k a0_0 a0_1 a0_2 l0_3 (rd t1402 a2) a3).bind fun bt1406 => (some (bt1406.1, bt1406.2.1, bt1406.2.2))) else (none)) else (none))) else (some (0, 0, false)))) = some (r1, r2, r3) := h); (clear h); (obtain ⟨y1398, hy1398⟩ : ∃ y_ : List Int, y_ = (([a1, a2] : List Int)) := ⟨_, rfl⟩); (replace H : ((impl_isThrown.f a0_0 a0_1 a0_2 l0_3 a3 20 y1398).bind fun t1401 => (if t1401 = true then ((impl_Board_places.f k a0_0 a0_1 a0_2 l0_3 a1 a3).bind fun t1402 => (if 0 ≤ a2 then (if a2 < (t1402.length : Int) then ((impl_Board_part.f k a0_0 a0_1 a0_2 l0_3 (rd t1402 a2) a3).bind fun bt1406 => (some (bt1406.1, bt1406.2.1, bt1406.2.2))) else (none)) else (none))) else (some (0, 0, false)))) = some (r1, r2, r3) := by first | (rw [hy1398]; with_reducible exact H) | (have H2_ := (Option.bind_some _ _).symm.trans H; rw [hy1398]; with_reducible exact H2_) | (have H2_ := (Option.bind_some _ _).symm.trans H; with_reducible exact H2_) | with_reducible exact H | (rw [hy1398]; exact H) | exact H); (have Ny1398 := Aside0.mk hy1398); (clear hy1398); (replace H := Option.bind_eq_some_iff.mp H); (obtain ⟨t1401, A50, H⟩ := H); (replace H : (if t1401 = true then ((impl_Board_places.f k a0_0 a0_1 a0_2 l0_3 a1 a3).bind fun t1402 => (if 0 ≤ a2 then (if a2 < (t1402.length : Int) then ((impl_Board_part.f k a0_0 a0_1 a0_2 l0_3 (rd t1402 a2) a3).bind fun bt1406 => (some (bt1406.1, bt1406.2.1, bt1406.2.2))) else (none)) else (none))) else (some (0, 0, false))) = some (r1, r2, r3) := H); (have A5 := Aside0.mk A50); (clear A50); (by_cases c6 : t1401 = true)
  · subst c6
    (have H1 : ((impl_Board_places.f k a0_0 a0_1 a0_2 l0_3 a1 a3).bind fun t1402 => (if 0 ≤ a2 then (if a2 < (t1402.length : Int) then ((impl_Board_part.f k a0_0 a0_1 a0_2 l0_3 (rd t1402 a2) a3).bind fun bt1406 => (some (bt1406.1, bt1406.2.1, bt1406.2.2))) else (none)) else (none))) = some (r1, r2, r3) := by rw [if_pos rfl] at H; exact H); (clear H); (have H := H1); (clear H1); (replace H := Option.bind_eq_some_iff.mp H); (obtain ⟨t1402, A70, H⟩ := H); (replace H : (if 0 ≤ a2 then (if a2 < (t1402.length : Int) then ((impl_Board_part.f k a0_0 a0_1 a0_2 l0_3 (rd t1402 a2) a3).bind fun bt1406 => (some (bt1406.1, bt1406.2.1, bt1406.2.2))) else (none)) else (none)) = some (r1, r2, r3) := H); (have A7 := Aside0.mk A70); (clear A70); (by_cases c8 : 0 ≤ a2)
    · rw [if_pos c8] at H
      (have c8b0 : decide (0 ≤ a2) = true := decide_eq_true c8); (clear c8); (by_cases c9 : a2 < (t1402.length : Int))
      · rw [if_pos c9] at H
        (have c9b0 : decide (a2 < (t1402.length : Int)) = true := decide_eq_true c9); (clear c9); (replace H := Option.bind_eq_some_iff.mp H); (obtain ⟨⟨t1406, t1407, t1408⟩, A100, H⟩ := H); (replace H : (some (t1406, t1407, t1408)) = some (r1, r2, r3) := H); (have A10 := Aside0.mk A100); (clear A100); (simp only [Option.some.injEq, Prod.mk.injEq] at H); (obtain ⟨rfl, rfl, rfl⟩ := H); (go_enter Try.func89, Try.ntmps89); (try go_wp2_with (first | ((with_reducible refine gate_dst (N := 4) rfl ?_); refine box_event ?hg (N := 4) ?hd (cs := #[.int .i64 a0_0, .int .i64 a0_1, .int .i64 a0_2, .slice A0_3 l0_3.length c0_3]) (t := 31) ?hr ?_; (case hd => rfl); (case hg => rfl); (case hr => exact zq19); intro gb1397 hg w11 hbox hb; have BK1397 := Aside0.mk (hbox); have GW1397 := Aside0.mk ((zq8 HB.out : w.heap.size ≤ gb1397)); have GE1397 := Aside0.mk ((zq8 HB.out : w.heap.size ≤ gb1397)); replace HB := Aside0.mk (below_step (zq15 HB.out) hb); clear hb hbox hg; obtain ⟨hcz12_0, hcz12_1, hcz12_2, hcz12_3, hfz12_0, hfz12_1, hfz12_2, hfz12_3⟩ := bk4_ BK1397.out) | ((with_reducible refine gate_dst (N := 15) rfl ?_); refine Kd.R_lit (Kd.int .i64) _ 3 ?hg (N := 15) ?hd (xs := ([a1, a2] : List Int)) (inner := [.int .i64 a1, .int .i64 a2]) (ok := fun _ => True) (okp := fun _ => True) ?hr ?hp (fun _ hk => hk) trivial (Below.refl _ _) (Nat.le_refl _) (by simp) ?_; (case hd => rfl); (case hg => rfl); (case hr => exact zq19); (case hp => exact (Reps.one (show Kd.M (Kd.int .i64) _ _ _ a1 [.int .i64 a1] from rfl) (Reps.one (show Kd.M (Kd.int .i64) _ _ _ a2 [.int .i64 a2] from rfl) (Reps.none _ _)))); intro v1399 w13 ho14 hb hg_ hnew_; clear hg_ hnew_; (first | rw [← Ny1398.out] at ho14 | (simp only [Int.reduceToNat] at ho14; rw [← Ny1398.out] at ho14)); have HO1400 := Aside0.mk (Kd.R_lower ho14 (below_size (zq2 HB.out GE1397.out))); replace BK1397 := Aside0.mk (zB BK1397.out hb); replace HB := Aside0.mk (below_step (zq2 HB.out GE1397.out) hb); clear hb ho14; obtain ⟨Ao15, co15, eo15⟩ := Kd.R_slice HO1400.out; subst eo15) | ((with_reducible refine gate_callee (f := 173) rfl ?_); refine goesL_ (some 16) rfl rfl Try.func173 (by kernel_rfl) rfl #[.agg #[.int .i64 a0_0, .int .i64 a0_1, .int .i64 a0_2, .slice A0_3 l0_3.length c0_3], .int .i64 a3, .int .i64 20, .slice Ao15 y1398.length co15] rfl zq6 ?_; (with_reducible refine (impl_isThrown.calls a0_0 a0_1 a0_2 _ _ l0_3 a3 20 _ _ y1398 true _ ?side1 ?side2 ?side3 ?side4 A5.out).mono ?_); (case side1 => exact zq10 HR0_3.out HB.out); (case side2 => exact HC0_3.out); (case side3 => exact zq12 HO1400.out); (case side4 => exact (Kd.R_reads' HO1400.out).2.1); rintro e w16 ⟨rfl, hb⟩; refine ⟨_, rfl, ?_⟩; replace HO1400 := Aside0.mk (Kd.R_below (zq3 HO1400.out) hb); replace BK1397 := Aside0.mk (zB BK1397.out hb); replace HB := Aside0.mk (below_step (zq2 HB.out GE1397.out) hb); (try clear hb); (try clear hb2); (try clear hk); (try clear hi)))); (have n0_ := Aside0.mk (Kd.R_drew HO1400.out)); (have n1_ := Aside0.mk (blk_drew BK1397.out)); (have n2_ := Aside0.mk (below_drew1 HB.out)); (clear HO1400); (clear BK1397); (clear HB); (have HO1400 := n0_); (have BK1397 := n1_); (have HB := n2_); (clear n0_ n1_ n2_); (refine start_ (n := 16) (S := fun w' => w'.cell? ⟨gb1397, 0, none⟩ = some (.int .i64 a0_0) ∧ w'.cell? ⟨gb1397, 1, none⟩ = some (.int .i64 a0_1) ∧ w'.cell? ⟨gb1397, 2, none⟩ = some (.int .i64 a0_2) ∧ w'.cell? ⟨gb1397, 3, none⟩ = some (.slice A0_3 l0_3.length c0_3)) (ds := []) #[false, false, false, false, false, false, false, false, false, false, false, false, false, false, false, false] (by kernel_rfl) rfl rfl ⟨(blk_cell BK1397.out 0).trans rfl, (blk_cell BK1397.out 1).trans rfl, (blk_cell BK1397.out 2).trans rfl, (blk_cell BK1397.out 3).trans rfl⟩ (fun hHeld => ?_); refine with_tabW impl_PartAt.tab3 impl_PartAt.bits3 (fun HT_ HW_ => ?_)); (generalize w16.drew = w17 at HO1400 BK1397 HB hHeld ⊢); (refine pure_ (i := 2) (N := some 20) (v := ?_) (a' := ?_) #[false, false, true, false, false, false, false, false, false, false, false, false, false, false, false, false] rfl rfl (any_of HT_.out (by kernel_rfl)) (fun _ _ _ h => h) (Or.inl ⟨by rfl, ?_⟩) ?_ ?_); (rotate_left)
        · intro w'
          (go_simp); (with_reducible rfl)
        rotate_left
        · simp only [Act.put, List.setIfInBounds_toArray, List.set_cons_zero, List.set_cons_succ, i64_w, i32_w]
          rfl
        (refine pure_ (i := 3) (N := some 21) (v := ?_) (a' := ?_) #[false, false, true, true, false, false, false, false, false, false, false, false, false, false, false, false] rfl rfl (any_of HT_.out (by kernel_rfl)) (fun _ _ _ h => h) (Or.inl ⟨by rfl, ?_⟩) ?_ ?_); (rotate_left)
        · intro w'
          (go_simp); (with_reducible rfl)
        rotate_left
        · simp only [Act.put, List.setIfInBounds_toArray, List.set_cons_zero, List.set_cons_succ, i64_w, i32_w]
          rfl
        (refine pure_ (i := 5) (N := some 23) (v := ?_) (a' := ?_) #[false, false, true, true, false, true, false, false, false, false, false, false, false, false, false, false] rfl rfl (any_of HT_.out (by kernel_rfl)) (fun _ _ _ h => h) (Or.inl ⟨by rfl, ?_⟩) ?_ ?_); (rotate_left)
        · intro w'
          (go_simp); (with_reducible rfl)
        rotate_left
        · simp only [Act.put, List.setIfInBounds_toArray, List.set_cons_zero, List.set_cons_succ, i64_w, i32_w]
          rfl
        (refine pure_ (i := 8) (N := some 26) (v := ?_) (a' := ?_) #[false, false, true, true, false, true, false, false, true, false, false, false, false, false, false, false] rfl rfl (any_of HT_.out (by kernel_rfl)) (fun _ _ _ h => h) (Or.inl ⟨by rfl, ?_⟩) ?_ ?_); (rotate_left)
        · intro w'
          (go_simp); (with_reducible rfl)
        rotate_left
        · simp only [Act.put, List.setIfInBounds_toArray, List.set_cons_zero, List.set_cons_succ, i64_w, i32_w]
          rfl
        (refine take_ (i := 0) (N := some 18) (v := ?_) (a' := ?_) #[true, false, true, true, false, true, false, false, true, false, false, false, false, false, false, false] rfl rfl (take_ofW HT_.out HW_.out (by kernel_rfl)) (fun _ _ _ h => h) (Or.inl ⟨by rfl, ?_⟩) hHeld ?_ ?_); (rotate_left)
        · rintro w' ⟨s0, s1, s2, s3⟩
          (go_simp); (with_reducible rfl)
        rotate_left
        · simp only [Act.put, List.setIfInBounds_toArray, List.set_cons_zero, List.set_cons_succ, i64_w, i32_w]
          rfl
        (refine take_ (i := 1) (N := some 19) (v := ?_) (a' := ?_) #[true, true, true, true, false, true, false, false, true, false, false, false, false, false, false, false] rfl rfl (take_ofW HT_.out HW_.out (by kernel_rfl)) (fun _ _ _ h => h) (Or.inl ⟨by rfl, ?_⟩) hHeld ?_ ?_); (rotate_left)
        · rintro w' ⟨s0, s1, s2, s3⟩
          (go_simp); (with_reducible rfl)
        rotate_left
        · simp only [Act.put, List.setIfInBounds_toArray, List.set_cons_zero, List.set_cons_succ, i64_w, i32_w]
          rfl
        (refine one_ (i := 4) (N := some 22) #[true, true, true, true, true, true, false, false, true, false, false, false, false, false, false, false] rfl rfl (one_of HT_.out (by kernel_rfl)) (by decide) (fun K hK => ?_)); (refine goes_ Try.func227 (by kernel_rfl) rfl #[.agg #[.int .i64 a0_0, .int .i64 a0_1, .int .i64 a0_2, .slice A0_3 l0_3.length c0_3], .int .i64 a1, .int .i64 a3] (by rfl) rfl rfl zq6 ?_); (with_reducible refine (impl_Board_places.calls k a0_0 a0_1 a0_2 _ _ l0_3 a1 a3 t1402 _ ?side1 ?side2 A7.out).mono ?_); ((case side1 => exact zq10 HR0_3.out HB.out)); ((case side2 => exact HC0_3.out)); (rintro e w18 ⟨v1403, rfl, ho0, hb⟩); (refine ⟨_, rfl, ?_⟩); (have n0_ := Aside0.mk (Kd.R_elder' (zq3 HO1400.out) (Kd.R_base ho0) hb)); (have n1_ := Aside0.mk (Kd.R_lower (Kd.R_new' ho0 (Kd.R_lt (zq3 HO1400.out))) (below_size (zq2 HB.out GE1397.out)))); (have n2_ := Aside0.mk (zB BK1397.out hb)); (have n3_ := Aside0.mk (below_step (zq2 HB.out GE1397.out) hb)); (clear HO1400); (clear BK1397); (clear HB); (have HO1400 := n0_); (have HO1404 := n1_); (have BK1397 := n2_); (have HB := n3_); (clear n0_ n1_ n2_ n3_); ((try clear hb)); ((try clear hb2)); ((try clear hk)); ((try clear hi)); ((try clear ho0)); (obtain ⟨Ao19, co19, eo19⟩ := Kd.R_slice HO1404.out); ((first | subst eo19 | (injection eo19 with f1_ f2_ f3_; have f4_ := f1_.symm; have f5_ := f3_.symm; clear f1_ f2_ f3_; subst f4_; subst f5_))); (have p1405 : 0 ≤ (a2 : Int) := of_decide_eq_true zq17); (have q1405 : a2 < (t1402.length : Int) := of_decide_eq_true zq17); (obtain ⟨ad1405, e1405, hx1405_0⟩ := Kd.at_int (Kd.R_reads' HO1404.out).2.2 a2 p1405 q1405); (cases e1405); (replace p1405 := eq_true p1405); (replace q1405 := eq_true q1405); (refine hK.out _ _ ⟨(blk_cell BK1397.out 0).trans rfl, (blk_cell BK1397.out 1).trans rfl, (blk_cell BK1397.out 2).trans rfl, (blk_cell BK1397.out 3).trans rfl⟩ (fun hHeld => ?_)); (clear hK K); (refine norm_ (a' := ?_) ?_ ?_); (rotate_left)
        · show Act.put _ (some 22) _ = _
          (simp only [Act.put, List.setIfInBounds_toArray, List.set_cons_zero, List.set_cons_succ, i64_w, i32_w]); (rfl)
        (refine pure_ (i := 6) (N := some 24) (v := ?_) (a' := ?_) #[true, true, true, true, true, true, true, false, true, false, false, false, false, false, false, false] rfl rfl (any_of HT_.out (by kernel_rfl)) (fun _ _ _ h => h) (Or.inl ⟨by rfl, ?_⟩) ?_ ?_); (rotate_left)
        · intro w'
          (go_simp); (with_reducible rfl)
        rotate_left
        · simp only [Act.put, List.setIfInBounds_toArray, List.set_cons_zero, List.set_cons_succ, i64_w, i32_w]
          rfl
        (refine one_ (i := 7) (N := some 25) #[true, true, true, true, true, true, true, true, true, false, false, false, false, false, false, false] rfl rfl (one_of HT_.out (by kernel_rfl)) (by decide) (fun K hK => ?_)); (refine value_ (w1 := ?_) (v := ?_) (by rfl) rfl ?_ ?_); (rotate_left 2)
        · go_simp
          constructor
          · rfl
          · rfl
        (refine hK.out _ _ ⟨hHeld.1, hHeld.2.1, hHeld.2.2.1, hHeld.2.2.2⟩ (fun hHeld => ?_)); (clear hK K); (refine norm_ (a' := ?_) ?_ ?_); (rotate_left)
        · show Act.put _ (some 25) _ = _
          (simp only [Act.put, List.setIfInBounds_toArray, List.set_cons_zero, List.set_cons_succ, i64_w, i32_w]); (rfl)
        (refine one_ (i := 9) (N := some 27) #[true, true, true, true, true, true, true, true, true, true, false, false, false, false, false, false] rfl rfl (one_of HT_.out (by kernel_rfl)) (by decide) (fun K hK => ?_)); (refine goes_ Try.func223 (by kernel_rfl) rfl #[.agg #[.int .i64 a0_0, .int .i64 a0_1, .int .i64 a0_2, .slice A0_3 l0_3.length c0_3], .int .i64 (rd t1402 a2), .int .i64 a3] (by rfl) rfl rfl zq6 ?_); (with_reducible refine (impl_Board_part.calls k a0_0 a0_1 a0_2 _ _ l0_3 (rd t1402 a2) a3 t1406 t1407 t1408 _ ?side1 ?side2 A10.out).mono ?_); ((case side1 => exact zq10 HR0_3.out HB.out)); ((case side2 => exact HC0_3.out)); (rintro e w20 ⟨rfl, hb⟩); (refine ⟨_, rfl, ?_⟩); (have n0_ := Aside0.mk (Kd.R_below (zq3 HO1400.out) hb)); (have n1_ := Aside0.mk (Kd.R_below (zq3 HO1404.out) hb)); (have n2_ := Aside0.mk (zB BK1397.out hb)); (have n3_ := Aside0.mk (below_step (zq2 HB.out GE1397.out) hb)); (clear HO1400); (clear HO1404); (clear BK1397); (clear HB); (have HO1400 := n0_); (have HO1404 := n1_); (have BK1397 := n2_); (have HB := n3_); (clear n0_ n1_ n2_ n3_); ((try clear hb)); ((try clear hb2)); ((try clear hk)); ((try clear hi)); (refine hK.out _ _ ⟨(blk_cell BK1397.out 0).trans rfl, (blk_cell BK1397.out 1).trans rfl, (blk_cell BK1397.out 2).trans rfl, (blk_cell BK1397.out 3).trans rfl⟩ (fun hHeld => ?_)); (clear hK K); (refine norm_ (a' := ?_) ?_ ?_); (rotate_left)
        · show Act.put _ (some 27) _ = _
          (simp only [Act.put, List.setIfInBounds_toArray, List.set_cons_zero, List.set_cons_succ, i64_w, i32_w]); (rfl)
        (refine pure_ (i := 10) (N := some 28) (v := ?_) (a' := ?_) #[true, true, true, true, true, true, true, true, true, true, true, false, false, false, false, false] rfl rfl (any_of HT_.out (by kernel_rfl)) (fun _ _ _ h => h) (Or.inl ⟨by rfl, ?_⟩) ?_ ?_); (rotate_left)
        · intro w'
          (go_simp); (with_reducible rfl)
        rotate_left
        · simp only [Act.put, List.setIfInBounds_toArray, List.set_cons_zero, List.set_cons_succ, i64_w, i32_w]
          rfl
        (refine pure_ (i := 11) (N := some 29) (v := ?_) (a' := ?_) #[true, true, true, true, true, true, true, true, true, true, true, true, false, false, false, false] rfl rfl (any_of HT_.out (by kernel_rfl)) (fun _ _ _ h => h) (Or.inl ⟨by rfl, ?_⟩) ?_ ?_); (rotate_left)
        · intro w'
          (go_simp); (with_reducible rfl)
        rotate_left
        · simp only [Act.put, List.setIfInBounds_toArray, List.set_cons_zero, List.set_cons_succ, i64_w, i32_w]
          rfl
        (refine pure_ (i := 12) (N := some 30) (v := ?_) (a' := ?_) #[true, true, true, true, true, true, true, true, true, true, true, true, true, false, false, false] rfl rfl (any_of HT_.out (by kernel_rfl)) (fun _ _ _ h => h) (Or.inl ⟨by rfl, ?_⟩) ?_ ?_); (rotate_left)
        · intro w'
          (go_simp); (with_reducible rfl)
        rotate_left
        · simp only [Act.put, List.setIfInBounds_toArray, List.set_cons_zero, List.set_cons_succ, i64_w, i32_w]
          rfl
        (refine pure_ (i := 13) (N := some 8) (v := ?_) (a' := ?_) #[true, true, true, true, true, true, true, true, true, true, true, true, true, true, false, false] rfl rfl (any_of HT_.out (by kernel_rfl)) (fun _ _ _ h => h) (Or.inl ⟨by rfl, ?_⟩) ?_ ?_); (rotate_left)
        · intro w'
          (go_simp); (with_reducible rfl)
        rotate_left
        · simp only [Act.put, List.setIfInBounds_toArray, List.set_cons_zero, List.set_cons_succ, i64_w, i32_w]
          rfl
        (refine pure_ (i := 14) (N := some 9) (v := ?_) (a' := ?_) #[true, true, true, true, true, true, true, true, true, true, true, true, true, true, true, false] rfl rfl (any_of HT_.out (by kernel_rfl)) (fun _ _ _ h => h) (Or.inl ⟨by rfl, ?_⟩) ?_ ?_); (rotate_left)
        · intro w'
          (go_simp); (with_reducible rfl)
        rotate_left
        · simp only [Act.put, List.setIfInBounds_toArray, List.set_cons_zero, List.set_cons_succ, i64_w, i32_w]
          rfl
        (refine pure_ (i := 15) (N := some 10) (v := ?_) (a' := ?_) #[true, true, true, true, true, true, true, true, true, true, true, true, true, true, true, true] rfl rfl (any_of HT_.out (by kernel_rfl)) (fun _ _ _ h => h) (Or.inl ⟨by rfl, ?_⟩) ?_ ?_); (rotate_left)
        · intro w'
          (go_simp); (with_reducible rfl)
        rotate_left
        · simp only [Act.put, List.setIfInBounds_toArray, List.set_cons_zero, List.set_cons_succ, i64_w, i32_w]
          rfl
        (refine done_ (done_of HT_.out (by kernel_rfl)) ?_); (try go_wp2); (go_ret3); (exact ⟨zq16, zq2 HB.out GE1397.out⟩)
      · rw [if_neg c9] at H
        exact absurd H (by simp)
    · rw [if_neg c8] at H
      exact absurd H (by simp)
  · replace c6 := Bool.eq_false_iff.mpr c6
    (subst c6); (have H1 : (some (0, 0, false)) = some (r1, r2, r3) := by rw [if_neg (show ¬ (false = true) by decide)] at H; exact H); (clear H); (have H := H1); (clear H1); (simp only [Option.some.injEq, Prod.mk.injEq] at H); (obtain ⟨rfl, rfl, rfl⟩ := H); (go_enter Try.func89, Try.ntmps89); (go_wp2_with (first | ((with_reducible refine gate_dst (N := 4) rfl ?_); refine box_event ?hg (N := 4) ?hd (cs := #[.int .i64 a0_0, .int .i64 a0_1, .int .i64 a0_2, .slice A0_3 l0_3.length c0_3]) (t := 31) ?hr ?_; (case hd => rfl); (case hg => rfl); (case hr => exact zq19); intro gb1397 hg w21 hbox hb; have BK1397 := Aside0.mk (hbox); have GW1397 := Aside0.mk ((zq8 HB.out : w.heap.size ≤ gb1397)); have GE1397 := Aside0.mk ((zq8 HB.out : w.heap.size ≤ gb1397)); replace HB := Aside0.mk (below_step (zq15 HB.out) hb); clear hb hbox hg; obtain ⟨hcz22_0, hcz22_1, hcz22_2, hcz22_3, hfz22_0, hfz22_1, hfz22_2, hfz22_3⟩ := bk4_ BK1397.out) | ((with_reducible refine gate_dst (N := 15) rfl ?_); refine Kd.R_lit (Kd.int .i64) _ 3 ?hg (N := 15) ?hd (xs := ([a1, a2] : List Int)) (inner := [.int .i64 a1, .int .i64 a2]) (ok := fun _ => True) (okp := fun _ => True) ?hr ?hp (fun _ hk => hk) trivial (Below.refl _ _) (Nat.le_refl _) (by simp) ?_; (case hd => rfl); (case hg => rfl); (case hr => exact zq19); (case hp => exact (Reps.one (show Kd.M (Kd.int .i64) _ _ _ a1 [.int .i64 a1] from rfl) (Reps.one (show Kd.M (Kd.int .i64) _ _ _ a2 [.int .i64 a2] from rfl) (Reps.none _ _)))); intro v1399 w23 ho24 hb hg_ hnew_; clear hg_ hnew_; (first | rw [← Ny1398.out] at ho24 | (simp only [Int.reduceToNat] at ho24; rw [← Ny1398.out] at ho24)); have HO1400 := Aside0.mk (Kd.R_lower ho24 (below_size (zq2 HB.out GE1397.out))); replace BK1397 := Aside0.mk (zB BK1397.out hb); replace HB := Aside0.mk (below_step (zq2 HB.out GE1397.out) hb); clear hb ho24; obtain ⟨Ao25, co25, eo25⟩ := Kd.R_slice HO1400.out; subst eo25) | ((with_reducible refine gate_callee (f := 173) rfl ?_); refine goesL_ (some 16) rfl rfl Try.func173 (by kernel_rfl) rfl #[.agg #[.int .i64 a0_0, .int .i64 a0_1, .int .i64 a0_2, .slice A0_3 l0_3.length c0_3], .int .i64 a3, .int .i64 20, .slice Ao25 y1398.length co25] rfl zq6 ?_; (with_reducible refine (impl_isThrown.calls a0_0 a0_1 a0_2 _ _ l0_3 a3 20 _ _ y1398 false _ ?side1 ?side2 ?side3 ?side4 A5.out).mono ?_); (case side1 => exact zq10 HR0_3.out HB.out); (case side2 => exact HC0_3.out); (case side3 => exact zq12 HO1400.out); (case side4 => exact (Kd.R_reads' HO1400.out).2.1); rintro e w26 ⟨rfl, hb⟩; refine ⟨_, rfl, ?_⟩; replace HO1400 := Aside0.mk (Kd.R_below (zq3 HO1400.out) hb); replace BK1397 := Aside0.mk (zB BK1397.out hb); replace HB := Aside0.mk (below_step (zq2 HB.out GE1397.out) hb); (try clear hb); (try clear hb2); (try clear hk); (try clear hi)))); (go_ret3); (exact ⟨zq16, zq2 HB.out GE1397.out⟩)
end

section
mutual
def spec_chPlaces.l0 : Nat → Int → List Int → Int → Int → Int → List (S126) → Option (List Int)
  | 0, _, _, _, _, _, _ => none
  | k + 1, x2, x7, x1410000, x1410001, x1410002, x1410003 => if x2 > 0 then (if 0 ≤ (wrap64 (x1410000 + 1)) then (if (wrap64 (x1410000 + 1) : Int).toNat ≤ 35184372088832 then (spec_chPlaces.l1 k x2 (List.replicate (wrap64 (x1410000 + 1) : Int).toNat 0) x7 (x7.length : Int) 0 x1410000 x1410001 x1410002 x1410003) else (none)) else (none)) else (some x7)
def spec_chPlaces.l1 : Nat → Int → List Int → List Int → Int → Int → Int → Int → Int → List (S126) → Option (List Int)
  | 0, _, _, _, _, _, _, _, _, _ => none
  | k + 1, x2, x8, x27, x28, x29, x1410000, x1410001, x1410002, x1410003 => if x29 < x28 then (if 0 ≤ x29 then (if x29 < (x27.length : Int) then (if (rd x27 x29) > 0 then (spec_chPlaces.l2 k x2 x8 x29 (rd x27 x29) 1 x27 x28 x29 x1410000 x1410001 x1410002 x1410003) else (spec_chPlaces.l1 k x2 x8 x27 x28 (wrap64 (x29 + 1)) x1410000 x1410001 x1410002 x1410003)) else (none)) else (none)) else (spec_chPlaces.l0 k (wrap64 (x2 - 1)) x8 x1410000 x1410001 x1410002 x1410003)
def spec_chPlaces.l2 : Nat → Int → List Int → Int → Int → Int → List Int → Int → Int → Int → Int → Int → List (S126) → Option (List Int)
  | 0, _, _, _, _, _, _, _, _, _, _, _, _ => none
  | k + 1, x2, x8, x9, x10, x11, x27, x28, x29, x1410000, x1410001, x1410002, x1410003 => if x11 ≤ x1410001 then ((spec_sqThrow.f x1410000 x1410001 x1410002 x1410003 x9 x11).bind fun t1418 => (if 0 ≤ t1418 then (if t1418 < (x8.length : Int) then (spec_chPlaces.l2 k x2 (x8.set (t1418 : Int).toNat (wrap64 ((rd x8 t1418) + x10))) x9 x10 (wrap64 (x11 + 1)) x27 x28 x29 x1410000 x1410001 x1410002 x1410003) else (none)) else (none))) else (spec_chPlaces.l1 k x2 x8 x27 x28 (wrap64 (x29 + 1)) x1410000 x1410001 x1410002 x1410003)
end
def spec_chPlaces.f (k : Nat) (a0_0 : Int) (a0_1 : Int) (a0_2 : Int) (l0_3 : List (S126)) (a1 : Int) (a2 : Int) : Option (List Int) := if 0 ≤ (wrap64 (a0_0 + 1)) then (if (wrap64 (a0_0 + 1) : Int).toNat ≤ 35184372088832 then ((some (List.replicate (wrap64 (a0_0 + 1) : Int).toNat 0 : List Int)).bind fun y1410 => (if 0 ≤ a1 then (if a1 < (y1410.length : Int) then (spec_chPlaces.l0 k a2 (y1410.set (a1 : Int).toNat 1) a0_0 a0_1 a0_2 l0_3) else (none)) else (none))) else (none)) else (none)
theorem spec_chPlaces.mono_l : ∀ k, (∀ y0 y1 y2 y3 y4 y5, LeO (spec_chPlaces.l0 k y0 y1 y2 y3 y4 y5) (spec_chPlaces.l0 (k + 1) y0 y1 y2 y3 y4 y5)) ∧ (∀ y0 y1 y2 y3 y4 y5 y6 y7 y8, LeO (spec_chPlaces.l1 k y0 y1 y2 y3 y4 y5 y6 y7 y8) (spec_chPlaces.l1 (k + 1) y0 y1 y2 y3 y4 y5 y6 y7 y8)) ∧ (∀ y0 y1 y2 y3 y4 y5 y6 y7 y8 y9 y10 y11, LeO (spec_chPlaces.l2 k y0 y1 y2 y3 y4 y5 y6 y7 y8 y9 y10 y11) (spec_chPlaces.l2 (k + 1) y0 y1 y2 y3 y4 y5 y6 y7 y8 y9 y10 y11))
  | 0 => ⟨fun _ _ _ _ _ _ r h => by simp [spec_chPlaces.l0] at h, fun _ _ _ _ _ _ _ _ _ r h => by simp [spec_chPlaces.l1] at h, fun _ _ _ _ _ _ _ _ _ _ _ _ r h => by simp [spec_chPlaces.l2] at h⟩
  | k + 1 => by
    (obtain ⟨ih0, ih1, ih2⟩ := spec_chPlaces.mono_l k); (refine ⟨?_, ?_, ?_⟩)
    · intro y0 y1 y2 y3 y4 y5
      (unfold spec_chPlaces.l0); (exact zq42)
    · intro y0 y1 y2 y3 y4 y5 y6 y7 y8
      (unfold spec_chPlaces.l1); (exact zq42)
    · intro y0 y1 y2 y3 y4 y5 y6 y7 y8 y9 y10 y11
      (unfold spec_chPlaces.l2); (exact zq42)
theorem spec_chPlaces.mono : ∀ a0 a1 a2 a3 a4 a5 k, LeO (spec_chPlaces.f k a0 a1 a2 a3 a4 a5) (spec_chPlaces.f (k + 1) a0 a1 a2 a3 a4 a5) := by
  (intro a0 a1 a2 a3 a4 a5 k); (obtain ⟨ih0, ih1, ih2⟩ := spec_chPlaces.mono_l k); (unfold spec_chPlaces.f); (exact zq42)
set_option maxHeartbeats 8000000 in
set_option maxRecDepth 100000 in
theorem spec_chPlaces.calls (k : Nat) (a0_0 : Int) (a0_1 : Int) (a0_2 : Int) (A0_3 : Option Addr) (c0_3 : Nat) (l0_3 : List (S126)) (a1 : Int) (a2 : Int) (r : List Int) (w : World) (hr0_3 : Kd.C k126 w A0_3 l0_3.length l0_3) (hc0_3 : l0_3.length ≤ c0_3) (h : spec_chPlaces.f k a0_0 a0_1 a0_2 l0_3 a1 a2 = some r) :
    Calls Try.prog 228 #[.agg #[.int .i64 a0_0, .int .i64 a0_1, .int .i64 a0_2, .slice A0_3 l0_3.length c0_3], .int .i64 a1, .int .i64 a2] w fun e w' => ∃ v0_ : Value, e = .returned (v0_) ∧ Kd.R (Kd.int .i64) 3 w' w.heap.size (fun _ => True) v0_ r ∧ Below w.heap.size w w' := by
  (have hu31 := Try.underlying31); (have HR0_3 := Aside0.mk hr0_3); (have HC0_3 := Aside0.mk hc0_3); (clear hr0_3 hc0_3); (have HB := Aside0.mk (Below.refl w.heap.size w)); (have H : (if 0 ≤ (wrap64 (a0_0 + 1)) then (if (wrap64 (a0_0 + 1) : Int).toNat ≤ 35184372088832 then ((some (List.replicate (wrap64 (a0_0 + 1) : Int).toNat 0 : List Int)).bind fun y1410 => (if 0 ≤ a1 then (if a1 < (y1410.length : Int) then (spec_chPlaces.l0 k a2 (y1410.set (a1 : Int).toNat 1) a0_0 a0_1 a0_2 l0_3) else (none)) else (none))) else (none)) else (none)) = some r := h); (clear h); (obtain ⟨ji4, hji4⟩ : ∃ j_ : Int, (wrap64 (a0_0 + 1)) = j_ := ⟨_, rfl⟩); (replace H : (if 0 ≤ (ji4) then (if (ji4 : Int).toNat ≤ 35184372088832 then ((some (List.replicate (ji4 : Int).toNat 0 : List Int)).bind fun y1410 => (if 0 ≤ a1 then (if a1 < (y1410.length : Int) then (spec_chPlaces.l0 k a2 (y1410.set (a1 : Int).toNat 1) a0_0 a0_1 a0_2 l0_3) else (none)) else (none))) else (none)) else (none)) = some r := by first | (rw [hji4] at H; exact H) | (simp only [hji4] at H ⊢; exact H)); (have hji4w : (IntKind.i64.wrap (a0_0 + 1)) = ji4 := (i64_w _).trans hji4); (by_cases c5 : 0 ≤ (ji4))
  · rw [if_pos c5] at H
    (have c5b0 := eq_true c5); (have c5b1 : decide (0 ≤ (ji4)) = true := decide_eq_true c5); (clear c5); (by_cases c6 : (ji4 : Int).toNat ≤ 35184372088832)
    · rw [if_pos c6] at H
      (have c6b0 := eq_true c6); (have c6b1 : decide ((ji4 : Int).toNat ≤ 35184372088832) = true := decide_eq_true c6); (clear c6); (obtain ⟨y1410, hy1410⟩ : ∃ y_ : List Int, y_ = (List.replicate (ji4 : Int).toNat 0) := ⟨_, rfl⟩); (replace H : (if 0 ≤ a1 then (if a1 < (y1410.length : Int) then (spec_chPlaces.l0 k a2 (y1410.set (a1 : Int).toNat 1) a0_0 a0_1 a0_2 l0_3) else (none)) else (none)) = some r := by first | (rw [hy1410]; with_reducible exact H) | (have H2_ := (Option.bind_some _ _).symm.trans H; rw [hy1410]; with_reducible exact H2_) | (have H2_ := (Option.bind_some _ _).symm.trans H; with_reducible exact H2_) | with_reducible exact H | (rw [hy1410]; exact H) | exact H); (have Ny1410 := Aside0.mk hy1410); (clear hy1410); (by_cases c7 : 0 ≤ a1)
      · rw [if_pos c7] at H
        (have c7b0 : decide (0 ≤ a1) = true := decide_eq_true c7); (clear c7); (by_cases c8 : a1 < (y1410.length : Int))
        · rw [if_pos c8] at H
          (have c8b0 : decide (a1 < (y1410.length : Int)) = true := decide_eq_true c8); (clear c8); (obtain ⟨y1413, hy1413⟩ : ∃ y_ : List Int, y_ = (y1410.set (a1 : Int).toNat 1) := ⟨_, rfl⟩); (replace H : (spec_chPlaces.l0 k a2 y1413 a0_0 a0_1 a0_2 l0_3) = some r := by first | (rw [hy1413]; with_reducible exact H) | (have H2_ := (Option.bind_some _ _).symm.trans H; rw [hy1413]; with_reducible exact H2_) | (have H2_ := (Option.bind_some _ _).symm.trans H; with_reducible exact H2_) | with_reducible exact H | (rw [hy1413]; exact H) | exact H); (have Ny1413 := Aside0.mk hy1413); (clear hy1413); (have H' := Aside0.mk H); (clear H); (go_enter Try.func228, Try.ntmps228); (go_wp2_with (first | ((with_reducible refine gate_dst (N := 3) rfl ?_); refine box_event ?hg (N := 3) ?hd (cs := #[.int .i64 a0_0, .int .i64 a0_1, .int .i64 a0_2, .slice A0_3 l0_3.length c0_3]) (t := 31) ?hr ?_; (case hd => rfl); (case hg => rfl); (case hr => exact zq19); intro gb1409 hg w10 hbox hb; have BK1409 := Aside0.mk (hbox); have GW1409 := Aside0.mk ((zq8 HB.out : w.heap.size ≤ gb1409)); have GE1409 := Aside0.mk ((zq8 HB.out : w.heap.size ≤ gb1409)); replace HB := Aside0.mk (below_step (zq15 HB.out) hb); clear hb hbox hg; obtain ⟨hcz11_0, hcz11_1, hcz11_2, hcz11_3, hfz11_0, hfz11_1, hfz11_2, hfz11_3⟩ := bk4_ BK1409.out) | ((with_reducible refine gate_dst (N := 15) rfl ?_); refine Kd.R_make (Kd.int .i64) _ 3 rfl (N := 15) rfl 26 _ _ rfl ji4 rfl rfl Try.underlying26 (.int .i64 0) 8 info3 rfl (by decide) (by omega) 0 (ok := fun _ => True) (okp := fun _ => True) rfl (fun _ hk => hk) trivial (of_decide_eq_true zq17) (Nat.le_trans (Nat.mul_le_mul_right _ (of_decide_eq_true zq17 : ji4.toNat ≤ 35184372088832)) (by omega)) (Below.refl _ _) (Nat.le_refl _) ?_; intro v1411 w12 ho13 hb hg_ hnew_; clear hg_ hnew_; (first | rw [← Ny1410.out] at ho13 | (simp only [Int.reduceToNat] at ho13; rw [← Ny1410.out] at ho13)); have HO1412 := Aside0.mk (Kd.R_lower ho13 (below_size (zq2 HB.out GE1409.out))); replace BK1409 := Aside0.mk (zB BK1409.out hb); replace HB := Aside0.mk (below_step (zq2 HB.out GE1409.out) hb); clear hb ho13; have p9 : 0 ≤ (a1 : Int) := of_decide_eq_true zq17; have q9 : (a1 : Int) < ((y1410.length : Int) : Int) := of_decide_eq_true zq17; obtain ⟨go9, co9, eo9, gb9, gl9, cl9, HG9⟩ := Kd.R_form HO1412.out (by omega); (first | cases eo9 | (injection eo9 with ea_ en_ ec_; (first | subst ea_ | (injection ea_ with ea_; subst ea_)); subst ec_; clear en_)); have GB9 := Aside0.mk gb9; have GG9 := Aside0.mk HG9; clear gb9 gl9 HG9; obtain ⟨hx9_0, hf9_0⟩ := Kd.R_celln 0 HO1412.out (a1 : Int) p9 q9; replace p9 := eq_true p9; replace q9 := eq_true q9; obtain ⟨hy14_, hz14_⟩ := Kd.R_celln 0 HO1412.out (a1 : Int) (of_decide_eq_true zq17) (of_decide_eq_true zq17); have HP14 := Kd.R_putg HO1412.out (a1 : Int) 1) | ((with_reducible refine gate_store (t := 3) (p := 18) rfl ?_); refine store_event (t := 3) (p := 18) (v := ?vo_w15) (w1 := (w12.setCell ⟨go9, (a1 : Int).toNat, none⟩ (.int .i64 1))) ?hg ?ho ?hn ?hr ?_; (case ho => rfl); (case hg => rfl); (case hn => rfl); (case hr => exact zq19); intro w15 hw; have hg : w12.grownBy w15 (some go9) := (by rw [hw]; exact HP14.2); have hp_ : Kd.R (Kd.int .i64) 3 w15 w.heap.size (fun _ => True) (.slice (some ⟨go9, 0, none⟩) y1410.length co9) y1413 := (by rw [hw, Ny1413.out]; exact HP14.1); clear HP14; replace BK1409 := Aside0.mk (blk_grown (g := gb1409) (o := .cells #[.int .i64 a0_0, .int .i64 a0_1, .int .i64 a0_2, .slice A0_3 l0_3.length c0_3] 31 (0, 0)) (zq1 BK1409.out) hg (Kd.R_ne HO1412.out BK1409.out (by decide))); replace HO1412 := Aside0.mk (hp_); replace HB := Aside0.mk ((zq97 HB.out GB9.out : Below w.heap.size w w15)); clear hg hw hp_))); (go_loopg [2, 7] k (fun kq v2 v7 w' => ∃ (x2_1 : Int) (x7_1 : List Int), v2 = .int .i64 x2_1 ∧ Aside0 (spec_chPlaces.l0 kq x2_1 x7_1 a0_0 a0_1 a0_2 l0_3 = some r) ∧ Aside0 (kq ≤ k) ∧ Aside0 (Kd.R (Kd.int .i64) 3 w' w.heap.size (fun _ => True) v7 x7_1) ∧ Aside0 (w'.heap[gb1409]? = some (.cells #[.int .i64 a0_0, .int .i64 a0_1, .int .i64 a0_2, (.slice A0_3 l0_3.length c0_3)] 31 (0, 0))) ∧ Aside0 (Below w.heap.size w w')))
          case atStart => exact ⟨(a2), (y1413), zq25, H', ⟨Nat.le_refl _⟩, ⟨zq3 HO1412.out⟩, ⟨zq1 BK1409.out⟩, ⟨zq2 HB.out GE1409.out⟩⟩
          case round =>
            (clear H'); (try clear c2); (try clear p2); (try clear c5); (try clear c5b0); (try clear c5b1); (try clear c6); (try clear c6b0); (try clear c6b1); (try clear p6); (try clear c7); (try clear c7b0); (try clear c8); (try clear c8b0); (try clear p9); (try clear q9); (try clear hx9); (try clear hf9); (try clear hcz11_0 hcz11_1 hcz11_2 hcz11_3 hfz11_0 hfz11_1 hfz11_2 hfz11_3); (try clear hx9_0); (try clear p9); (try clear q9); (obtain ⟨x2_1, x7_1, rfl, HA, HK1, HO_7, BK1409, HB⟩ := hrel)
            cases gk with
            | zero => exact absurd HA.out (by simp [spec_chPlaces.l0])
            | succ k1 =>
              (have H := HA.out); (clear HA); (simp only [spec_chPlaces.l0] at H); (by_cases c16 : x2_1 > 0)
              · rw [if_pos c16] at H
                (have c16b0 : decide (0 < x2_1) = true := decide_eq_true c16); (clear c16); (try clear hji4 hji4w); (obtain ⟨ji17, hji17⟩ : ∃ j_ : Int, (wrap64 (a0_0 + 1)) = j_ := ⟨_, rfl⟩); (replace H : (if 0 ≤ (ji17) then (if (ji17 : Int).toNat ≤ 35184372088832 then (spec_chPlaces.l1 k1 x2_1 (List.replicate (ji17 : Int).toNat 0) x7_1 (x7_1.length : Int) 0 a0_0 a0_1 a0_2 l0_3) else (none)) else (none)) = some r := by first | (rw [hji17] at H; exact H) | (simp only [hji17] at H ⊢; exact H)); (have hji17w : (IntKind.i64.wrap (a0_0 + 1)) = ji17 := (i64_w _).trans hji17); (by_cases c18 : 0 ≤ (ji17))
                · rw [if_pos c18] at H
                  (have c18b0 := eq_true c18); (have c18b1 : decide (0 ≤ (ji17)) = true := decide_eq_true c18); (clear c18); (by_cases c19 : (ji17 : Int).toNat ≤ 35184372088832)
                  · rw [if_pos c19] at H
                    (have c19b0 := eq_true c19); (have c19b1 : decide ((ji17 : Int).toNat ≤ 35184372088832) = true := decide_eq_true c19); (clear c19); (obtain ⟨y1414, hy1414⟩ : ∃ y_ : List Int, y_ = (List.replicate (ji17 : Int).toNat 0) := ⟨_, rfl⟩); (replace H : (spec_chPlaces.l1 k1 x2_1 y1414 x7_1 (x7_1.length : Int) 0 a0_0 a0_1 a0_2 l0_3) = some r := by first | (rw [hy1414]; with_reducible exact H) | (have H2_ := (Option.bind_some _ _).symm.trans H; rw [hy1414]; with_reducible exact H2_) | (have H2_ := (Option.bind_some _ _).symm.trans H; with_reducible exact H2_) | with_reducible exact H | (rw [hy1414]; exact H) | exact H); (have Ny1414 := Aside0.mk hy1414); (clear hy1414); (have H' := Aside0.mk H); (clear H); (obtain ⟨hcz20_0, hcz20_1, hcz20_2, hcz20_3, hfz20_0, hfz20_1, hfz20_2, hfz20_3⟩ := bk4_ BK1409.out); (go_wp2_with (first | ((with_reducible refine gate_dst (N := 26) rfl ?_); refine Kd.R_make (Kd.int .i64) _ 3 rfl (N := 26) rfl 26 _ _ rfl ji17 rfl rfl Try.underlying26 (.int .i64 0) 8 info3 rfl (by decide) (by omega) 0 (ok := fun _ => True) (okp := fun _ => True) rfl (fun _ hk => hk) trivial (of_decide_eq_true zq17) (Nat.le_trans (Nat.mul_le_mul_right _ (of_decide_eq_true zq17 : ji17.toNat ≤ 35184372088832)) (by omega)) (Below.refl _ _) (Nat.le_refl _) ?_; intro v1415 w21 ho22 hb hg_ hnew_; clear hg_ hnew_; (first | rw [← Ny1414.out] at ho22 | (simp only [Int.reduceToNat] at ho22; rw [← Ny1414.out] at ho22)); have HO1416 := Aside0.mk (Kd.R_lower (Kd.R_new' ho22 (Kd.R_lt (zq3 HO_7.out))) (below_size (zq2 HB.out GE1409.out))); replace HO_7 := Aside0.mk (Kd.R_elder' (zq3 HO_7.out) (Kd.R_base ho22) hb); replace BK1409 := Aside0.mk (zB BK1409.out hb); replace HB := Aside0.mk (below_step (zq2 HB.out GE1409.out) hb); clear hb ho22; obtain ⟨Ao23, co23, eo23⟩ := Kd.R_slice HO_7.out; subst eo23))); (go_loopg [29] k1 (fun kq v29 w' => ∃ (x8_2 : List Int) (x29_2 : Int), v29 = .int .i64 x29_2 ∧ Aside0 (spec_chPlaces.l1 kq x2_1 x8_2 x7_1 (x7_1.length : Int) x29_2 a0_0 a0_1 a0_2 l0_3 = some r) ∧ Aside0 (kq ≤ k1) ∧ Aside0 (Kd.R (Kd.int .i64) 3 w' w.heap.size (fun k_ => some k_ ≠ ((.slice Ao23 x7_1.length co23) : Value).ownBlock) v1415 x8_2) ∧ Aside0 (Kd.R (Kd.int .i64) 3 w' w.heap.size (fun k_ => some k_ ≠ (v1415 : Value).ownBlock) (.slice Ao23 x7_1.length co23) x7_1) ∧ Aside0 (w'.heap[gb1409]? = some (.cells #[.int .i64 a0_0, .int .i64 a0_1, .int .i64 a0_2, (.slice A0_3 l0_3.length c0_3)] 31 (0, 0))) ∧ Aside0 (Below w.heap.size w w')))
                    case atStart => exact ⟨(y1414), (0), zq25, H', ⟨Nat.le_refl _⟩, ⟨zq36 HO1416.out⟩, ⟨zq36 HO_7.out⟩, ⟨zq1 BK1409.out⟩, ⟨zq2 HB.out GE1409.out⟩⟩
                    case round =>
                      (clear H'); (try clear c1); (try clear c2); (try clear p2); (try clear c5); (try clear c5b0); (try clear c5b1); (try clear c6); (try clear c6b0); (try clear c6b1); (try clear p6); (try clear c7); (try clear c7b0); (try clear c8); (try clear c8b0); (try clear p9); (try clear q9); (try clear hx9); (try clear hf9); (try clear c16); (try clear c16b0); (try clear c18); (try clear c18b0); (try clear c18b1); (try clear c19); (try clear c19b0); (try clear c19b1); (try clear c22); (try clear hcz11_0 hcz11_1 hcz11_2 hcz11_3); (try clear hcz20_0 hcz20_1 hcz20_2 hcz20_3); (try clear hfz11_0 hfz11_1 hfz11_2 hfz11_3); (try clear hfz20_0 hfz20_1 hfz20_2 hfz20_3); (try clear hx9_0); (try clear p2); (try clear p6); (try clear p9); (try clear q9); (obtain ⟨x8_2, x29_2, rfl, HA, HK2, HO_8, HO_27, BK1409, HB⟩ := hrel)
                      cases gk with
                      | zero => exact absurd HA.out (by simp [spec_chPlaces.l1])
                      | succ k2 =>
                        (have H := HA.out); (clear HA); (simp only [spec_chPlaces.l1] at H); (by_cases c24 : x29_2 < (x7_1.length : Int))
                        · rw [if_pos c24] at H
                          (have c24b0 : decide (x29_2 < (x7_1.length : Int)) = true := decide_eq_true c24); (clear c24); (by_cases c25 : 0 ≤ x29_2)
                          · rw [if_pos c25] at H
                            (have c25b0 : decide (0 ≤ x29_2) = true := decide_eq_true c25); (clear c25); (by_cases c26 : x29_2 < (x7_1.length : Int))
                            · rw [if_pos c26] at H
                              (have c26b0 : decide (x29_2 < (x7_1.length : Int)) = true := decide_eq_true c26); (clear c26); (by_cases c27 : (rd x7_1 x29_2) > 0)
                              · rw [if_pos c27] at H
                                (have c27b0 : decide (0 < (rd x7_1 x29_2)) = true := decide_eq_true c27); (clear c27); (have H' := Aside0.mk H); (clear H); (have p1417 : 0 ≤ (x29_2 : Int) := of_decide_eq_true zq17); (have q1417 : x29_2 < (x7_1.length : Int) := of_decide_eq_true zq17); (obtain ⟨Aq_, cq_, eq_⟩ := Kd.R_slice HO_27.out); ((first | subst eq_ | (injection eq_ with f1_ f2_ f3_; clear f2_; subst f1_; subst f3_))); (obtain ⟨ad1417, e1417, hx1417_0⟩ := Kd.at_int (Kd.R_reads' HO_27.out).2.2 x29_2 p1417 q1417); (cases e1417); (replace p1417 := eq_true p1417); (replace q1417 := eq_true q1417); (go_wp2); (go_loopg [11] k2 (fun kq v11 w' => ∃ (x8_3 : List Int) (x11_3 : Int), v11 = .int .i64 x11_3 ∧ Aside0 (spec_chPlaces.l2 kq x2_1 x8_3 x29_2 (rd x7_1 x29_2) x11_3 x7_1 (x7_1.length : Int) x29_2 a0_0 a0_1 a0_2 l0_3 = some r) ∧ Aside0 (kq ≤ k2) ∧ Aside0 (Kd.R (Kd.int .i64) 3 w' w.heap.size (fun k_ => some k_ ≠ ((.slice (some ad1417) x7_1.length co23) : Value).ownBlock) v1415 x8_3) ∧ Aside0 (Kd.R (Kd.int .i64) 3 w' w.heap.size (fun k_ => some k_ ≠ (v1415 : Value).ownBlock) (.slice (some ad1417) x7_1.length co23) x7_1) ∧ Aside0 (w'.heap[gb1409]? = some (.cells #[.int .i64 a0_0, .int .i64 a0_1, .int .i64 a0_2, (.slice A0_3 l0_3.length c0_3)] 31 (0, 0))) ∧ Aside0 (Below w.heap.size w w')))
                                case atStart => exact ⟨(x8_2), (1), zq25, H', ⟨Nat.le_refl _⟩, ⟨zq3 HO_8.out⟩, ⟨zq3 HO_27.out⟩, ⟨zq1 BK1409.out⟩, ⟨zq2 HB.out GE1409.out⟩⟩
                                case round =>
                                  (clear H'); (try clear c1); (try clear p1); (try clear q1); (try clear hx1); (try clear c2); (try clear p2); (try clear c5); (try clear c5b0); (try clear c5b1); (try clear c6); (try clear c6b0); (try clear c6b1); (try clear p6); (try clear c7); (try clear c7b0); (try clear c8); (try clear c8b0); (try clear p9); (try clear q9); (try clear hx9); (try clear hf9); (try clear p14); (try clear q14); (try clear hx14); (try clear c16); (try clear c16b0); (try clear c18); (try clear c18b0); (try clear c18b1); (try clear c19); (try clear c19b0); (try clear c19b1); (try clear c22); (try clear c24); (try clear c24b0); (try clear c25); (try clear c25b0); (try clear c26); (try clear c26b0); (try clear c27); (try clear c27b0); (try clear hcz11_0 hcz11_1 hcz11_2 hcz11_3); (try clear hcz20_0 hcz20_1 hcz20_2 hcz20_3); (try clear hfz11_0 hfz11_1 hfz11_2 hfz11_3); (try clear hfz20_0 hfz20_1 hfz20_2 hfz20_3); (try clear hx1417_0); (try clear hx9_0); (try clear p1417); (try clear p2); (try clear p6); (try clear p9); (try clear q1417); (try clear q9); (obtain ⟨x8_3, x11_3, rfl, HA, HK3, HO_8, HO_27, BK1409, HB⟩ := hrel)
                                  cases gk with
                                  | zero => exact absurd HA.out (by simp [spec_chPlaces.l2])
                                  | succ k3 =>
                                    (have H := HA.out); (clear HA); (simp only [spec_chPlaces.l2] at H); (by_cases c28 : x11_3 ≤ a0_1)
                                    · rw [if_pos c28] at H
                                      (have c28b0 : decide (x11_3 ≤ a0_1) = true := decide_eq_true c28); (clear c28); (replace H := Option.bind_eq_some_iff.mp H); (obtain ⟨t1418, A290, H⟩ := H); (replace H : (if 0 ≤ t1418 then (if t1418 < (x8_3.length : Int) then (spec_chPlaces.l2 k3 x2_1 (x8_3.set (t1418 : Int).toNat (wrap64 ((rd x8_3 t1418) + (rd x7_1 x29_2)))) x29_2 (rd x7_1 x29_2) (wrap64 (x11_3 + 1)) x7_1 (x7_1.length : Int) x29_2 a0_0 a0_1 a0_2 l0_3) else (none)) else (none)) = some r := H); (have A29 := Aside0.mk A290); (clear A290); (by_cases c30 : 0 ≤ t1418)
                                      · rw [if_pos c30] at H
                                        (have c30b0 : decide (0 ≤ t1418) = true := decide_eq_true c30); (clear c30); (by_cases c31 : t1418 < (x8_3.length : Int))
                                        · rw [if_pos c31] at H
                                          (have c31b0 : decide (t1418 < (x8_3.length : Int)) = true := decide_eq_true c31); (clear c31); (obtain ⟨y1420, hy1420⟩ : ∃ y_ : List Int, y_ = (x8_3.set (t1418 : Int).toNat (wrap64 ((rd x8_3 t1418) + (rd x7_1 x29_2)))) := ⟨_, rfl⟩); (replace H : (spec_chPlaces.l2 k3 x2_1 y1420 x29_2 (rd x7_1 x29_2) (wrap64 (x11_3 + 1)) x7_1 (x7_1.length : Int) x29_2 a0_0 a0_1 a0_2 l0_3) = some r := by first | (rw [hy1420]; with_reducible exact H) | (have H2_ := (Option.bind_some _ _).symm.trans H; rw [hy1420]; with_reducible exact H2_) | (have H2_ := (Option.bind_some _ _).symm.trans H; with_reducible exact H2_) | with_reducible exact H | (rw [hy1420]; exact H) | exact H); (have Ny1420 := Aside0.mk hy1420); (clear hy1420); (have H' := Aside0.mk H); (clear H); (obtain ⟨hcz33_0, hcz33_1, hcz33_2, hcz33_3, hfz33_0, hfz33_1, hfz33_2, hfz33_3⟩ := bk4_ BK1409.out); (go_wp2_with (first | ((with_reducible refine gate_callee (f := 188) rfl ?_); refine goesL_ (some 46) rfl rfl Try.func188 (by kernel_rfl) rfl #[.agg #[.int .i64 a0_0, .int .i64 a0_1, .int .i64 a0_2, .slice A0_3 l0_3.length c0_3], .int .i64 x29_2, .int .i64 x11_3] rfl zq6 ?_; (with_reducible refine (spec_sqThrow.calls a0_0 a0_1 a0_2 _ _ l0_3 x29_2 x11_3 t1418 _ ?side1 ?side2 A29.out).mono ?_); (case side1 => exact zq10 HR0_3.out HB.out); (case side2 => exact HC0_3.out); rintro e w34 ⟨rfl, hb⟩; refine ⟨_, rfl, ?_⟩; replace HO_8 := Aside0.mk (Kd.R_below (zq3 HO_8.out) hb); replace HO_27 := Aside0.mk (Kd.R_below (zq3 HO_27.out) hb); replace BK1409 := Aside0.mk (zB BK1409.out hb); replace HB := Aside0.mk (below_step (zq2 HB.out GE1409.out) hb); (try clear hb); (try clear hb2); (try clear hk); (try clear hi); obtain ⟨Ao35, co35, eo35⟩ := Kd.R_slice HO_8.out; subst eo35; have p1419 : 0 ≤ (t1418 : Int) := of_decide_eq_true zq17; have q1419 : t1418 < (x8_3.length : Int) := of_decide_eq_true zq17; obtain ⟨ad1419, e1419, hx1419_0⟩ := Kd.at_int (Kd.R_reads' HO_8.out).2.2 t1418 p1419 q1419; cases e1419; replace p1419 := eq_true p1419; replace q1419 := eq_true q1419; have p32 : 0 ≤ (t1418 : Int) := of_decide_eq_true zq17; have q32 : (t1418 : Int) < ((x8_3.length : Int) : Int) := of_decide_eq_true zq17; obtain ⟨go32, co32, eo32, gb32, gl32, cl32, HG32⟩ := Kd.R_form HO_8.out (by omega); (first | cases eo32 | (injection eo32 with ea_ en_ ec_; (first | subst ea_ | (injection ea_ with ea_; subst ea_)); subst ec_; clear en_)); have GB32 := Aside0.mk gb32; have GG32 := Aside0.mk HG32; clear gb32 gl32 HG32; (first | simp only [add_plain] at hx1419_0 | skip); obtain ⟨hx32_0, hf32_0⟩ := Kd.R_celln 0 HO_8.out (t1418 : Int) p32 q32; replace p32 := eq_true p32; replace q32 := eq_true q32; obtain ⟨hy36_, hz36_⟩ := Kd.R_celln 0 HO_8.out (t1418 : Int) (of_decide_eq_true zq17) (of_decide_eq_true zq17); have HP36 := Kd.R_putg HO_8.out (t1418 : Int) (wrap64 ((rd x8_3 t1418) + (rd x7_1 x29_2)))) | ((with_reducible refine gate_store (t := 3) (p := 51) rfl ?_); refine store_event (t := 3) (p := 51) (v := ?vo_w37) (w1 := (w34.setCell ⟨go32, (t1418 : Int).toNat, none⟩ (.int .i64 (wrap64 ((rd x8_3 t1418) + (rd x7_1 x29_2)))))) ?hg ?ho ?hn ?hr ?_; (case ho => rfl); (case hg => rfl); (case hn => rfl); (case hr => exact zq19); intro w37 hw; have hg : w34.grownBy w37 (some go32) := (by rw [hw]; exact HP36.2); have hp_ : Kd.R (Kd.int .i64) 3 w37 w.heap.size (fun k_ => some k_ ≠ (.slice (some ad1417) x7_1.length co23 : Value).ownBlock) (.slice (some ⟨go32, 0, none⟩) x8_3.length co35) y1420 := (by rw [hw, Ny1420.out]; exact HP36.1); clear HP36; replace HO_27 := Aside0.mk (Kd.R_after (v := (.slice (some ⟨go32, 0, none⟩) x8_3.length co35)) (v1 := (.slice (some ⟨go32, 0, none⟩) x8_3.length co35)) (ok := (fun _ => True)) (zq93 HO_27.out) hg (.inl rfl)); replace BK1409 := Aside0.mk (blk_grown (g := gb1409) (o := .cells #[.int .i64 a0_0, .int .i64 a0_1, .int .i64 a0_2, .slice A0_3 l0_3.length c0_3] 31 (0, 0)) (zq1 BK1409.out) hg (Kd.R_ne HO_8.out BK1409.out (by decide))); replace HO_8 := Aside0.mk (hp_); replace HB := Aside0.mk ((zq97 HB.out GB32.out : Below w.heap.size w w37)); clear hg hw hp_))); (go_roundg k3)
                                          case measure => have := HK1.out; have := HK2.out; have := HK3.out; omega
                                          case rel => exact ⟨(y1420), (wrap64 (x11_3 + 1)), zq25, H', ⟨by have := HK1.out; have := HK2.out; have := HK3.out; omega⟩, ⟨zq3 HO_8.out⟩, ⟨zq36 HO_27.out⟩, ⟨zq1 BK1409.out⟩, ⟨zq2 HB.out GE1409.out⟩⟩
                                        · rw [if_neg c31] at H
                                          exact absurd H (by simp)
                                      · rw [if_neg c30] at H
                                        exact absurd H (by simp)
                                    · rw [if_neg c28] at H
                                      (have c28b0 : decide (x11_3 ≤ a0_1) = false := decide_eq_false c28); (clear c28); (have H' := Aside0.mk H); (clear H); (obtain ⟨hcz38_0, hcz38_1, hcz38_2, hcz38_3, hfz38_0, hfz38_1, hfz38_2, hfz38_3⟩ := bk4_ BK1409.out); (go_wp2); (go_roundg k3)
                                      case measure => have := HK1.out; have := HK2.out; have := HK3.out; omega
                                      case rel => exact ⟨(x8_3), (wrap64 (x29_2 + 1)), zq25, H', ⟨by have := HK1.out; have := HK2.out; have := HK3.out; omega⟩, ⟨zq3 HO_8.out⟩, ⟨zq3 HO_27.out⟩, ⟨zq1 BK1409.out⟩, ⟨zq2 HB.out GE1409.out⟩⟩
                              · rw [if_neg c27] at H
                                (have c27b0 : decide (0 < (rd x7_1 x29_2)) = false := decide_eq_false c27); (clear c27); (have H' := Aside0.mk H); (clear H); (have p1417 : 0 ≤ (x29_2 : Int) := of_decide_eq_true zq17); (have q1417 : x29_2 < (x7_1.length : Int) := of_decide_eq_true zq17); (obtain ⟨ad1417, e1417, hx1417_0⟩ := Kd.at_int (Kd.R_reads' HO_27.out).2.2 x29_2 p1417 q1417); (cases e1417); (replace p1417 := eq_true p1417); (replace q1417 := eq_true q1417); (go_wp2); (go_roundg k2)
                                case measure => have := HK1.out; have := HK2.out; omega
                                case rel => exact ⟨(x8_2), (wrap64 (x29_2 + 1)), zq25, H', ⟨by have := HK1.out; have := HK2.out; omega⟩, ⟨zq3 HO_8.out⟩, ⟨zq3 HO_27.out⟩, ⟨zq1 BK1409.out⟩, ⟨zq2 HB.out GE1409.out⟩⟩
                            · rw [if_neg c26] at H
                              exact absurd H (by simp)
                          · rw [if_neg c25] at H
                            exact absurd H (by simp)
                        · rw [if_neg c24] at H
                          (have c24b0 : decide (x29_2 < (x7_1.length : Int)) = false := decide_eq_false c24); (clear c24); (have H' := Aside0.mk H); (clear H); (go_wp2); (go_roundg k2)
                          case measure => have := HK1.out; have := HK2.out; omega
                          case rel => exact ⟨(wrap64 (x2_1 - 1)), (x8_2), zq25, H', ⟨by have := HK1.out; have := HK2.out; omega⟩, ⟨zq50 HO_8.out⟩, ⟨zq1 BK1409.out⟩, ⟨zq2 HB.out GE1409.out⟩⟩
                  · rw [if_neg c19] at H
                    exact absurd H (by simp)
                · rw [if_neg c18] at H
                  exact absurd H (by simp)
              · rw [if_neg c16] at H
                (have c16b0 : decide (0 < x2_1) = false := decide_eq_false c16); (clear c16); (obtain rfl := Option.some.inj H); (go_wp2); (go_ret); (exact ⟨_, by first | rfl | (simp [errW_none, errW_some] <;> rfl) | (simp only [← hji4]; first | rfl | (simp [errW_none, errW_some] <;> rfl)) | (simp [*, errW_none, errW_some] <;> rfl), zq3 HO_7.out, zq2 HB.out GE1409.out⟩)
        · rw [if_neg c8] at H
          exact absurd H (by simp)
      · rw [if_neg c7] at H
        exact absurd H (by simp)
    · rw [if_neg c6] at H
      exact absurd H (by simp)
  · rw [if_neg c5] at H
    exact absurd H (by simp)
end

section
def spec_PartAt.j0 : Nat → Int → Int → Int → Bool → Int → Int → Int → List (S126) → Option (Int × Int × Bool)
  | 0, _, _, _, _, _, _, _, _ => none
  | k + 1, x1, x2, x3, x21, x1422000, x1422001, x1422002, x1422003 => if x21 = true then (some (0, 0, false)) else ((spec_chPlaces.f k x1422000 x1422001 x1422002 x1422003 x1 x3).bind fun t1424 => (if 0 ≤ x2 then (if x2 < (t1424.length : Int) then ((spec_chPart.f k x1422000 x1422001 x1422002 x1422003 (rd t1424 x2) x3).bind fun bt1428 => (some (bt1428.1, bt1428.2.1, bt1428.2.2))) else (none)) else (none)))
def spec_PartAt.f (k : Nat) (a0_0 : Int) (a0_1 : Int) (a0_2 : Int) (l0_3 : List (S126)) (a1 : Int) (a2 : Int) (a3 : Int) : Option (Int × Int × Bool) := (spec_chAsked.f a0_0 a0_1 a0_2 l0_3 a1 a3).bind fun t1422 => (if t1422 = true then ((spec_sqSquare.f a0_0 a0_1 a0_2 l0_3 a2).bind fun t1423 => (spec_PartAt.j0 k a1 a2 a3 (!t1423) a0_0 a0_1 a0_2 l0_3)) else (spec_PartAt.j0 k a1 a2 a3 true a0_0 a0_1 a0_2 l0_3))
theorem spec_PartAt.mono_l : ∀ k, (∀ y0 y1 y2 y3 y4 y5 y6 y7, LeO (spec_PartAt.j0 k y0 y1 y2 y3 y4 y5 y6 y7) (spec_PartAt.j0 (k + 1) y0 y1 y2 y3 y4 y5 y6 y7))
  | 0 => fun _ _ _ _ _ _ _ _ r h => by simp [spec_PartAt.j0] at h
  | k + 1 => by
    have ih0 := spec_PartAt.mono_l k
    · intro y0 y1 y2 y3 y4 y5 y6 y7
      (unfold spec_PartAt.j0); (exact zq57)
theorem spec_PartAt.mono : ∀ a0 a1 a2 a3 a4 a5 a6 k, LeO (spec_PartAt.f k a0 a1 a2 a3 a4 a5 a6) (spec_PartAt.f (k + 1) a0 a1 a2 a3 a4 a5 a6) := by
  (intro a0 a1 a2 a3 a4 a5 a6 k); (have ih0 := spec_PartAt.mono_l k); (unfold spec_PartAt.f); (exact zq57)
def spec_PartAt.T3 : Bool × List (List Nat × List Nat) := (true, [([], []), ([], []), ([], []), ([], []), ([1, 2, 3], [1, 2, 3]), ([], []), ([4, 5], [4, 5]), ([6], [6]), ([], []), ([0, 7, 8, 4], [0, 7, 8]), ([9], [9]), ([9], [9]), ([9], [9]), ([10, 9, 0, 1, 2, 3, 4, 5, 6, 7, 8, 9, 10, 11, 12], [10]), ([11, 13, 0, 1, 2, 3, 4, 5, 6, 7, 8, 9, 10, 11, 12, 13], [11]), ([12, 14, 0, 1, 2, 3, 4, 5, 6, 7, 8, 9, 10, 11, 12, 13, 14], [12])])
def spec_PartAt.B3 : List Nat := [0, 0, 0, 0, 14, 0, 62, 126, 0, 511, 1023, 1023, 1023, 8191, 16383, 32767]
theorem spec_PartAt.tab3 : rtab .any (opsOf Try.f90 3) = spec_PartAt.T3 := by kernel_rfl
theorem spec_PartAt.bits3 : waitsOk spec_PartAt.T3.2 spec_PartAt.B3 = true := by kernel_rfl
set_option maxHeartbeats 8000000 in
set_option maxRecDepth 100000 in
theorem spec_PartAt.calls (k : Nat) (a0_0 : Int) (a0_1 : Int) (a0_2 : Int) (A0_3 : Option Addr) (c0_3 : Nat) (l0_3 : List (S126)) (a1 : Int) (a2 : Int) (a3 : Int) (r1 : Int) (r2 : Int) (r3 : Bool) (w : World) (hr0_3 : Kd.C k126 w A0_3 l0_3.length l0_3) (hc0_3 : l0_3.length ≤ c0_3) (h : spec_PartAt.f k a0_0 a0_1 a0_2 l0_3 a1 a2 a3 = some (r1, r2, r3)) :
    Calls Try.prog 90 #[.agg #[.int .i64 a0_0, .int .i64 a0_1, .int .i64 a0_2, .slice A0_3 l0_3.length c0_3], .int .i64 a1, .int .i64 a2, .int .i64 a3] w fun e w' => e = .returned (.tuple #[.int .i64 r1, .int .i64 r2, .bool r3]) ∧ Below w.heap.size w w' := by
  (have hu31 := Try.underlying31); (have HR0_3 := Aside0.mk hr0_3); (have HC0_3 := Aside0.mk hc0_3); (clear hr0_3 hc0_3); (have HB := Aside0.mk (Below.refl w.heap.size w)); (have H : ((spec_chAsked.f a0_0 a0_1 a0_2 l0_3 a1 a3).bind fun t1422 => (if t1422 = true then ((spec_sqSquare.f a0_0 a0_1 a0_2 l0_3 a2).bind fun t1423 => (spec_PartAt.j0 k a1 a2 a3 (!t1423) a0_0 a0_1 a0_2 l0_3)) else (spec_PartAt.j0 k a1 a2 a3 true a0_0 a0_1 a0_2 l0_3))) = some (r1, r2, r3) := h); (clear h); (have HC5 := Aside0.mk H); (clear H); (go_enter Try.func90, Try.ntmps90); (go_upto_region 1 with (first | ((with_reducible refine gate_dst (N := 4) rfl ?_); refine box_event ?hg (N := 4) ?hd (cs := #[.int .i64 a0_0, .int .i64 a0_1, .int .i64 a0_2, .slice A0_3 l0_3.length c0_3]) (t := 31) ?hr ?_; (case hd => rfl); (case hg => rfl); (case hr => exact zq19); intro gb1421 hg w6 hbox hb; have BK1421 := Aside0.mk (hbox); have GW1421 := Aside0.mk ((zq8 HB.out : w.heap.size ≤ gb1421)); have GE1421 := Aside0.mk ((zq8 HB.out : w.heap.size ≤ gb1421)); replace HB := Aside0.mk (below_step (zq15 HB.out) hb); clear hb hbox hg))); ((try simp only [Act.put, List.setIfInBounds_toArray, List.set_cons_zero, List.set_cons_succ])); (go_cut [21] (fun v21 wc => ∃ (kq : Nat) (x21_4 : Bool), v21 = .bool x21_4 ∧ Aside0 (spec_PartAt.j0 kq a1 a2 a3 x21_4 a0_0 a0_1 a0_2 l0_3 = some (r1, r2, r3)) ∧ Aside0 (kq ≤ k) ∧ Aside0 (wc.heap[gb1421]? = some (.cells #[.int .i64 a0_0, .int .i64 a0_1, .int .i64 a0_2, (.slice A0_3 l0_3.length c0_3)] 31 (0, 0))) ∧ Aside0 (Below w.heap.size w wc)))
  case first =>
    (have H := HC5.out); (clear HC5); (replace H := Option.bind_eq_some_iff.mp H); (obtain ⟨t1422, A70, H⟩ := H); (replace H : (if t1422 = true then ((spec_sqSquare.f a0_0 a0_1 a0_2 l0_3 a2).bind fun t1423 => (spec_PartAt.j0 k a1 a2 a3 (!t1423) a0_0 a0_1 a0_2 l0_3)) else (spec_PartAt.j0 k a1 a2 a3 true a0_0 a0_1 a0_2 l0_3)) = some (r1, r2, r3) := H); (have A7 := Aside0.mk A70); (clear A70); (by_cases c8 : t1422 = true)
    · subst c8
      (have H1 : ((spec_sqSquare.f a0_0 a0_1 a0_2 l0_3 a2).bind fun t1423 => (spec_PartAt.j0 k a1 a2 a3 (!t1423) a0_0 a0_1 a0_2 l0_3)) = some (r1, r2, r3) := by rw [if_pos rfl] at H; exact H); (clear H); (have H := H1); (clear H1); (replace H := Option.bind_eq_some_iff.mp H); (obtain ⟨t1423, A90, H⟩ := H); (replace H : (spec_PartAt.j0 k a1 a2 a3 (!t1423) a0_0 a0_1 a0_2 l0_3) = some (r1, r2, r3) := H); (have A9 := Aside0.mk A90); (clear A90); (have H' := Aside0.mk H); (clear H); (obtain ⟨hcz10_0, hcz10_1, hcz10_2, hcz10_3, hfz10_0, hfz10_1, hfz10_2, hfz10_3⟩ := bk4_ BK1421.out); (go_wp2_with (first | ((with_reducible refine gate_callee (f := 224) rfl ?_); refine goesL_ (some 14) rfl rfl Try.func224 (by kernel_rfl) rfl #[.agg #[.int .i64 a0_0, .int .i64 a0_1, .int .i64 a0_2, .slice A0_3 l0_3.length c0_3], .int .i64 a1, .int .i64 a3] rfl zq6 ?_; (with_reducible refine (spec_chAsked.calls a0_0 a0_1 a0_2 _ _ l0_3 a1 a3 true _ ?side1 ?side2 A7.out).mono ?_); (case side1 => exact zq10 HR0_3.out HB.out); (case side2 => exact HC0_3.out); rintro e w11 ⟨rfl, hb⟩; refine ⟨_, rfl, ?_⟩; replace BK1421 := Aside0.mk (zB BK1421.out hb); replace HB := Aside0.mk (below_step (zq2 HB.out GE1421.out) hb); (try clear hb); (try clear hb2); (try clear hk); (try clear hi); obtain ⟨hcz12_0, hcz12_1, hcz12_2, hcz12_3, hfz12_0, hfz12_1, hfz12_2, hfz12_3⟩ := bk4_ BK1421.out) | (go_at_call 159; (with_reducible refine (spec_sqSquare.calls a0_0 a0_1 a0_2 _ _ l0_3 a2 t1423 _ ?side1 ?side2 A9.out).mono ?_); (case side1 => exact zq10 HR0_3.out HB.out); (case side2 => exact HC0_3.out); rintro e w13 ⟨rfl, hb⟩; replace BK1421 := Aside0.mk (zB BK1421.out hb); replace HB := Aside0.mk (below_step (zq2 HB.out GE1421.out) hb); (try clear hb); (try clear hb2); (try clear hk); (try clear hi)))); (go_meet)
      case rel => exact ⟨_, (!t1423), zq25, H', ⟨zq94⟩, ⟨zq1 BK1421.out⟩, ⟨zq2 HB.out GE1421.out⟩⟩
    · replace c8 := Bool.eq_false_iff.mpr c8
      (subst c8); (have H1 : (spec_PartAt.j0 k a1 a2 a3 true a0_0 a0_1 a0_2 l0_3) = some (r1, r2, r3) := by rw [if_neg (show ¬ (false = true) by decide)] at H; exact H); (clear H); (have H := H1); (clear H1); (have H' := Aside0.mk H); (clear H); (obtain ⟨hcz14_0, hcz14_1, hcz14_2, hcz14_3, hfz14_0, hfz14_1, hfz14_2, hfz14_3⟩ := bk4_ BK1421.out); (go_wp2_with (first | ((with_reducible refine gate_callee (f := 224) rfl ?_); refine goesL_ (some 14) rfl rfl Try.func224 (by kernel_rfl) rfl #[.agg #[.int .i64 a0_0, .int .i64 a0_1, .int .i64 a0_2, .slice A0_3 l0_3.length c0_3], .int .i64 a1, .int .i64 a3] rfl zq6 ?_; (with_reducible refine (spec_chAsked.calls a0_0 a0_1 a0_2 _ _ l0_3 a1 a3 false _ ?side1 ?side2 A7.out).mono ?_); (case side1 => exact zq10 HR0_3.out HB.out); (case side2 => exact HC0_3.out); rintro e w15 ⟨rfl, hb⟩; refine ⟨_, rfl, ?_⟩; replace BK1421 := Aside0.mk (zB BK1421.out hb); replace HB := Aside0.mk (below_step (zq2 HB.out GE1421.out) hb); (try clear hb); (try clear hb2); (try clear hk); (try clear hi)))); (go_meet)
      case rel => exact ⟨_, (true), zq25, H', ⟨zq94⟩, ⟨zq1 BK1421.out⟩, ⟨zq2 HB.out GE1421.out⟩⟩
  case rest =>
    (clear HC5); (try clear c2); (try clear p2); (try clear c8); (try clear c9); (try clear hcz10_0 hcz10_1 hcz10_2 hcz10_3); (try clear hcz12_0 hcz12_1 hcz12_2 hcz12_3); (try clear hcz14_0 hcz14_1 hcz14_2 hcz14_3); (try clear hfz10_0 hfz10_1 hfz10_2 hfz10_3); (try clear hfz12_0 hfz12_1 hfz12_2 hfz12_3); (try clear hfz14_0 hfz14_1 hfz14_2 hfz14_3); (obtain ⟨kq, x21_4, rfl, HA, HJ4, BK1421, HB⟩ := hcut)
    cases kq with
    | zero => exact absurd HA.out (by simp [spec_PartAt.j0])
    | succ kj4 =>
      (have H := HA.out); (clear HA); (simp only [spec_PartAt.j0] at H); (by_cases c16 : x21_4 = true)
      · subst c16
        (have H1 : (some (0, 0, false)) = some (r1, r2, r3) := by rw [if_pos rfl] at H; exact H); (clear H); (have H := H1); (clear H1); (simp only [Option.some.injEq, Prod.mk.injEq] at H); (obtain ⟨rfl, rfl, rfl⟩ := H); (go_wp2); (go_ret3); (exact ⟨zq16, zq2 HB.out GE1421.out⟩)
      · replace c16 := Bool.eq_false_iff.mpr c16
        (subst c16); (have H1 : ((spec_chPlaces.f kj4 a0_0 a0_1 a0_2 l0_3 a1 a3).bind fun t1424 => (if 0 ≤ a2 then (if a2 < (t1424.length : Int) then ((spec_chPart.f kj4 a0_0 a0_1 a0_2 l0_3 (rd t1424 a2) a3).bind fun bt1428 => (some (bt1428.1, bt1428.2.1, bt1428.2.2))) else (none)) else (none))) = some (r1, r2, r3) := by rw [if_neg (show ¬ (false = true) by decide)] at H; exact H); (clear H); (have H := H1); (clear H1); (replace H := Option.bind_eq_some_iff.mp H); (obtain ⟨t1424, A170, H⟩ := H); (replace H : (if 0 ≤ a2 then (if a2 < (t1424.length : Int) then ((spec_chPart.f kj4 a0_0 a0_1 a0_2 l0_3 (rd t1424 a2) a3).bind fun bt1428 => (some (bt1428.1, bt1428.2.1, bt1428.2.2))) else (none)) else (none)) = some (r1, r2, r3) := H); (have A17 := Aside0.mk A170); (clear A170); (by_cases c18 : 0 ≤ a2)
        · rw [if_pos c18] at H
          (have c18b0 : decide (0 ≤ a2) = true := decide_eq_true c18); (clear c18); (by_cases c19 : a2 < (t1424.length : Int))
          · rw [if_pos c19] at H
            (have c19b0 : decide (a2 < (t1424.length : Int)) = true := decide_eq_true c19); (clear c19); (replace H := Option.bind_eq_some_iff.mp H); (obtain ⟨⟨t1428, t1429, t1430⟩, A200, H⟩ := H); (replace H : (some (t1428, t1429, t1430)) = some (r1, r2, r3) := H); (have A20 := Aside0.mk A200); (clear A200); (simp only [Option.some.injEq, Prod.mk.injEq] at H); (obtain ⟨rfl, rfl, rfl⟩ := H); (try go_wp2); (have n0_ := Aside0.mk (blk_drew BK1421.out)); (have n1_ := Aside0.mk (below_drew1 HB.out)); (clear BK1421); (clear HB); (have BK1421 := n0_); (have HB := n1_); (clear n0_ n1_); (refine start_ (n := 16) (S := fun w' => w'.cell? ⟨gb1421, 0, none⟩ = some (.int .i64 a0_0) ∧ w'.cell? ⟨gb1421, 1, none⟩ = some (.int .i64 a0_1) ∧ w'.cell? ⟨gb1421, 2, none⟩ = some (.int .i64 a0_2) ∧ w'.cell? ⟨gb1421, 3, none⟩ = some (.slice A0_3 l0_3.length c0_3)) (ds := []) #[false, false, false, false, false, false, false, false, false, false, false, false, false, false, false, false] (by kernel_rfl) rfl rfl ⟨(blk_cell BK1421.out 0).trans rfl, (blk_cell BK1421.out 1).trans rfl, (blk_cell BK1421.out 2).trans rfl, (blk_cell BK1421.out 3).trans rfl⟩ (fun hHeld => ?_); refine with_tabW spec_PartAt.tab3 spec_PartAt.bits3 (fun HT_ HW_ => ?_)); (generalize wc.drew = w21 at BK1421 HB hHeld ⊢); (refine pure_ (i := 2) (N := some 24) (v := ?_) (a' := ?_) #[false, false, true, false, false, false, false, false, false, false, false, false, false, false, false, false] rfl rfl (any_of HT_.out (by kernel_rfl)) (fun _ _ _ h => h) (Or.inl ⟨by rfl, ?_⟩) ?_ ?_); (rotate_left)
            · intro w'
              (go_simp); (with_reducible rfl)
            rotate_left
            · simp only [Act.put, List.setIfInBounds_toArray, List.set_cons_zero, List.set_cons_succ, i64_w, i32_w]
              rfl
            (refine pure_ (i := 3) (N := some 25) (v := ?_) (a' := ?_) #[false, false, true, true, false, false, false, false, false, false, false, false, false, false, false, false] rfl rfl (any_of HT_.out (by kernel_rfl)) (fun _ _ _ h => h) (Or.inl ⟨by rfl, ?_⟩) ?_ ?_); (rotate_left)
            · intro w'
              (go_simp); (with_reducible rfl)
            rotate_left
            · simp only [Act.put, List.setIfInBounds_toArray, List.set_cons_zero, List.set_cons_succ, i64_w, i32_w]
              rfl
            (refine pure_ (i := 5) (N := some 27) (v := ?_) (a' := ?_) #[false, false, true, true, false, true, false, false, false, false, false, false, false, false, false, false] rfl rfl (any_of HT_.out (by kernel_rfl)) (fun _ _ _ h => h) (Or.inl ⟨by rfl, ?_⟩) ?_ ?_); (rotate_left)
            · intro w'
              (go_simp); (with_reducible rfl)
            rotate_left
            · simp only [Act.put, List.setIfInBounds_toArray, List.set_cons_zero, List.set_cons_succ, i64_w, i32_w]
              rfl
            (refine pure_ (i := 8) (N := some 30) (v := ?_) (a' := ?_) #[false, false, true, true, false, true, false, false, true, false, false, false, false, false, false, false] rfl rfl (any_of HT_.out (by kernel_rfl)) (fun _ _ _ h => h) (Or.inl ⟨by rfl, ?_⟩) ?_ ?_); (rotate_left)
            · intro w'
              (go_simp); (with_reducible rfl)
            rotate_left
            · simp only [Act.put, List.setIfInBounds_toArray, List.set_cons_zero, List.set_cons_succ, i64_w, i32_w]
              rfl
            (refine take_ (i := 0) (N := some 22) (v := ?_) (a' := ?_) #[true, false, true, true, false, true, false, false, true, false, false, false, false, false, false, false] rfl rfl (take_ofW HT_.out HW_.out (by kernel_rfl)) (fun _ _ _ h => h) (Or.inl ⟨by rfl, ?_⟩) hHeld ?_ ?_); (rotate_left)
            · rintro w' ⟨s0, s1, s2, s3⟩
              (go_simp); (with_reducible rfl)
            rotate_left
            · simp only [Act.put, List.setIfInBounds_toArray, List.set_cons_zero, List.set_cons_succ, i64_w, i32_w]
              rfl
            (refine take_ (i := 1) (N := some 23) (v := ?_) (a' := ?_) #[true, true, true, true, false, true, false, false, true, false, false, false, false, false, false, false] rfl rfl (take_ofW HT_.out HW_.out (by kernel_rfl)) (fun _ _ _ h => h) (Or.inl ⟨by rfl, ?_⟩) hHeld ?_ ?_); (rotate_left)
            · rintro w' ⟨s0, s1, s2, s3⟩
              (go_simp); (with_reducible rfl)
            rotate_left
            · simp only [Act.put, List.setIfInBounds_toArray, List.set_cons_zero, List.set_cons_succ, i64_w, i32_w]
              rfl
            (refine one_ (i := 4) (N := some 26) #[true, true, true, true, true, true, false, false, true, false, false, false, false, false, false, false] rfl rfl (one_of HT_.out (by kernel_rfl)) (by decide) (fun K hK => ?_)); (refine goes_ Try.func228 (by kernel_rfl) rfl #[.agg #[.int .i64 a0_0, .int .i64 a0_1, .int .i64 a0_2, .slice A0_3 l0_3.length c0_3], .int .i64 a1, .int .i64 a3] (by rfl) rfl rfl zq6 ?_); (with_reducible refine (spec_chPlaces.calls kj4 a0_0 a0_1 a0_2 _ _ l0_3 a1 a3 t1424 _ ?side1 ?side2 A17.out).mono ?_); ((case side1 => exact zq10 HR0_3.out HB.out)); ((case side2 => exact HC0_3.out)); (rintro e w22 ⟨v1425, rfl, ho0, hb⟩); (refine ⟨_, rfl, ?_⟩); (have n0_ := Aside0.mk (Kd.R_lower ho0 (below_size (zq2 HB.out GE1421.out)))); (have n1_ := Aside0.mk (zB BK1421.out hb)); (have n2_ := Aside0.mk (below_step (zq2 HB.out GE1421.out) hb)); (clear BK1421); (clear HB); (have HO1426 := n0_); (have BK1421 := n1_); (have HB := n2_); (clear n0_ n1_ n2_); ((try clear hb)); ((try clear hb2)); ((try clear hk)); ((try clear hi)); ((try clear ho0)); (obtain ⟨Ao23, co23, eo23⟩ := Kd.R_slice HO1426.out); ((first | subst eo23 | (injection eo23 with f1_ f2_ f3_; have f4_ := f1_.symm; have f5_ := f3_.symm; clear f1_ f2_ f3_; subst f4_; subst f5_))); (have p1427 : 0 ≤ (a2 : Int) := of_decide_eq_true zq17); (have q1427 : a2 < (t1424.length : Int) := of_decide_eq_true zq17); (obtain ⟨ad1427, e1427, hx1427_0⟩ := Kd.at_int (Kd.R_reads' HO1426.out).2.2 a2 p1427 q1427); (cases e1427); (replace p1427 := eq_true p1427); (replace q1427 := eq_true q1427); (refine hK.out _ _ ⟨(blk_cell BK1421.out 0).trans rfl, (blk_cell BK1421.out 1).trans rfl, (blk_cell BK1421.out 2).trans rfl, (blk_cell BK1421.out 3).trans rfl⟩ (fun hHeld => ?_)); (clear hK K); (refine norm_ (a' := ?_) ?_ ?_); (rotate_left)
            · show Act.put _ (some 26) _ = _
              (simp only [Act.put, List.setIfInBounds_toArray, List.set_cons_zero, List.set_cons_succ, i64_w, i32_w]); (rfl)
            (refine pure_ (i := 6) (N := some 28) (v := ?_) (a' := ?_) #[true, true, true, true, true, true, true, false, true, false, false, false, false, false, false, false] rfl rfl (any_of HT_.out (by kernel_rfl)) (fun _ _ _ h => h) (Or.inl ⟨by rfl, ?_⟩) ?_ ?_); (rotate_left)
            · intro w'
              (go_simp); (with_reducible rfl)
            rotate_left
            · simp only [Act.put, List.setIfInBounds_toArray, List.set_cons_zero, List.set_cons_succ, i64_w, i32_w]
              rfl
            (refine one_ (i := 7) (N := some 29) #[true, true, true, true, true, true, true, true, true, false, false, false, false, false, false, false] rfl rfl (one_of HT_.out (by kernel_rfl)) (by decide) (fun K hK => ?_)); (refine value_ (w1 := ?_) (v := ?_) (by rfl) rfl ?_ ?_); (rotate_left 2)
            · go_simp
              constructor
              · rfl
              · rfl
            (refine hK.out _ _ ⟨hHeld.1, hHeld.2.1, hHeld.2.2.1, hHeld.2.2.2⟩ (fun hHeld => ?_)); (clear hK K); (refine norm_ (a' := ?_) ?_ ?_); (rotate_left)
            · show Act.put _ (some 29) _ = _
              (simp only [Act.put, List.setIfInBounds_toArray, List.set_cons_zero, List.set_cons_succ, i64_w, i32_w]); (rfl)
            (refine one_ (i := 9) (N := some 31) #[true, true, true, true, true, true, true, true, true, true, false, false, false, false, false, false] rfl rfl (one_of HT_.out (by kernel_rfl)) (by decide) (fun K hK => ?_)); (refine goes_ Try.func226 (by kernel_rfl) rfl #[.agg #[.int .i64 a0_0, .int .i64 a0_1, .int .i64 a0_2, .slice A0_3 l0_3.length c0_3], .int .i64 (rd t1424 a2), .int .i64 a3] (by rfl) rfl rfl zq6 ?_); (with_reducible refine (spec_chPart.calls kj4 a0_0 a0_1 a0_2 _ _ l0_3 (rd t1424 a2) a3 t1428 t1429 t1430 _ ?side1 ?side2 A20.out).mono ?_); ((case side1 => exact zq10 HR0_3.out HB.out)); ((case side2 => exact HC0_3.out)); (rintro e w24 ⟨rfl, hb⟩); (refine ⟨_, rfl, ?_⟩); (have n0_ := Aside0.mk (Kd.R_below (zq3 HO1426.out) hb)); (have n1_ := Aside0.mk (zB BK1421.out hb)); (have n2_ := Aside0.mk (below_step (zq2 HB.out GE1421.out) hb)); (clear HO1426); (clear BK1421); (clear HB); (have HO1426 := n0_); (have BK1421 := n1_); (have HB := n2_); (clear n0_ n1_ n2_); ((try clear hb)); ((try clear hb2)); ((try clear hk)); ((try clear hi)); (refine hK.out _ _ ⟨(blk_cell BK1421.out 0).trans rfl, (blk_cell BK1421.out 1).trans rfl, (blk_cell BK1421.out 2).trans rfl, (blk_cell BK1421.out 3).trans rfl⟩ (fun hHeld => ?_)); (clear hK K); (refine norm_ (a' := ?_) ?_ ?_); (rotate_left)
            · show Act.put _ (some 31) _ = _
              (simp only [Act.put, List.setIfInBounds_toArray, List.set_cons_zero, List.set_cons_succ, i64_w, i32_w]); (rfl)
            (refine pure_ (i := 10) (N := some 32) (v := ?_) (a' := ?_) #[true, true, true, true, true, true, true, true, true, true, true, false, false, false, false, false] rfl rfl (any_of HT_.out (by kernel_rfl)) (fun _ _ _ h => h) (Or.inl ⟨by rfl, ?_⟩) ?_ ?_); (rotate_left)
            · intro w'
              (go_simp); (with_reducible rfl)
            rotate_left
            · simp only [Act.put, List.setIfInBounds_toArray, List.set_cons_zero, List.set_cons_succ, i64_w, i32_w]
              rfl
            (refine pure_ (i := 11) (N := some 33) (v := ?_) (a' := ?_) #[true, true, true, true, true, true, true, true, true, true, true, true, false, false, false, false] rfl rfl (any_of HT_.out (by kernel_rfl)) (fun _ _ _ h => h) (Or.inl ⟨by rfl, ?_⟩) ?_ ?_); (rotate_left)
            · intro w'
              (go_simp); (with_reducible rfl)
            rotate_left
            · simp only [Act.put, List.setIfInBounds_toArray, List.set_cons_zero, List.set_cons_succ, i64_w, i32_w]
              rfl
            (refine pure_ (i := 12) (N := some 34) (v := ?_) (a' := ?_) #[true, true, true, true, true, true, true, true, true, true, true, true, true, false, false, false] rfl rfl (any_of HT_.out (by kernel_rfl)) (fun _ _ _ h => h) (Or.inl ⟨by rfl, ?_⟩) ?_ ?_); (rotate_left)
            · intro w'
              (go_simp); (with_reducible rfl)
            rotate_left
            · simp only [Act.put, List.setIfInBounds_toArray, List.set_cons_zero, List.set_cons_succ, i64_w, i32_w]
              rfl
            (refine pure_ (i := 13) (N := some 8) (v := ?_) (a' := ?_) #[true, true, true, true, true, true, true, true, true, true, true, true, true, true, false, false] rfl rfl (any_of HT_.out (by kernel_rfl)) (fun _ _ _ h => h) (Or.inl ⟨by rfl, ?_⟩) ?_ ?_); (rotate_left)
            · intro w'
              (go_simp); (with_reducible rfl)
            rotate_left
            · simp only [Act.put, List.setIfInBounds_toArray, List.set_cons_zero, List.set_cons_succ, i64_w, i32_w]
              rfl
            (refine pure_ (i := 14) (N := some 9) (v := ?_) (a' := ?_) #[true, true, true, true, true, true, true, true, true, true, true, true, true, true, true, false] rfl rfl (any_of HT_.out (by kernel_rfl)) (fun _ _ _ h => h) (Or.inl ⟨by rfl, ?_⟩) ?_ ?_); (rotate_left)
            · intro w'
              (go_simp); (with_reducible rfl)
            rotate_left
            · simp only [Act.put, List.setIfInBounds_toArray, List.set_cons_zero, List.set_cons_succ, i64_w, i32_w]
              rfl
            (refine pure_ (i := 15) (N := some 10) (v := ?_) (a' := ?_) #[true, true, true, true, true, true, true, true, true, true, true, true, true, true, true, true] rfl rfl (any_of HT_.out (by kernel_rfl)) (fun _ _ _ h => h) (Or.inl ⟨by rfl, ?_⟩) ?_ ?_); (rotate_left)
            · intro w'
              (go_simp); (with_reducible rfl)
            rotate_left
            · simp only [Act.put, List.setIfInBounds_toArray, List.set_cons_zero, List.set_cons_succ, i64_w, i32_w]
              rfl
            (refine done_ (done_of HT_.out (by kernel_rfl)) ?_); (try go_wp2); (go_ret3); (exact ⟨zq16, zq2 HB.out GE1421.out⟩)
          · rw [if_neg c19] at H
            exact absurd H (by simp)
        · rw [if_neg c18] at H
          exact absurd H (by simp)
end

section
def impl_PlacesAfter.f (k : Nat) (a0_0 : Int) (a0_1 : Int) (a0_2 : Int) (l0_3 : List (S126)) (a1 : Int) (a2 : Int) : Option (List Int × Bool) := (impl_isThrown.f a0_0 a0_1 a0_2 l0_3 a2 20 (([a1] : List Int))).bind fun t1435 => (if t1435 = true then ((impl_Board_places.f k a0_0 a0_1 a0_2 l0_3 a1 a2).bind fun t1436 => (some (t1436, true))) else (some (([] : List Int), false)))
theorem impl_PlacesAfter.mono : ∀ a0 a1 a2 a3 a4 a5 k, LeO (impl_PlacesAfter.f k a0 a1 a2 a3 a4 a5) (impl_PlacesAfter.f (k + 1) a0 a1 a2 a3 a4 a5) := by
  (intro a0 a1 a2 a3 a4 a5 k); (unfold impl_PlacesAfter.f); (exact (by repeat' first | (with_reducible exact impl_Board_places.mono _ _ _ _ _ _ _) | (with_reducible exact LeO.refl _) | (with_reducible exact LeO.none _) | (with_reducible refine LeO.ite ?_ ?_) | (with_reducible refine LeO.bind ?_ (fun _ => ?_)) | exact impl_Board_places.mono _ _ _ _ _ _ _ | exact LeO.none _ | refine LeO.ite ?_ ?_ | refine LeO.bind ?_ (fun _ => ?_)))
set_option maxHeartbeats 8000000 in
set_option maxRecDepth 100000 in
theorem impl_PlacesAfter.calls (k : Nat) (a0_0 : Int) (a0_1 : Int) (a0_2 : Int) (A0_3 : Option Addr) (c0_3 : Nat) (l0_3 : List (S126)) (a1 : Int) (a2 : Int) (r1 : List Int) (r2 : Bool) (w : World) (hr0_3 : Kd.C k126 w A0_3 l0_3.length l0_3) (hc0_3 : l0_3.length ≤ c0_3) (h : impl_PlacesAfter.f k a0_0 a0_1 a0_2 l0_3 a1 a2 = some (r1, r2)) :
    Calls Try.prog 91 #[.agg #[.int .i64 a0_0, .int .i64 a0_1, .int .i64 a0_2, .slice A0_3 l0_3.length c0_3], .int .i64 a1, .int .i64 a2] w fun e w' => ∃ v0_ : Value, e = .returned (.tuple #[v0_, .bool r2]) ∧ Kd.R (Kd.int .i64) 3 w' w.heap.size (fun _ => True) v0_ r1 ∧ Below w.heap.size w w' := by
  (have hu31 := Try.underlying31); (have HR0_3 := Aside0.mk hr0_3); (have HC0_3 := Aside0.mk hc0_3); (clear hr0_3 hc0_3); (have HB := Aside0.mk (Below.refl w.heap.size w)); (have H : ((impl_isThrown.f a0_0 a0_1 a0_2 l0_3 a2 20 (([a1] : List Int))).bind fun t1435 => (if t1435 = true then ((impl_Board_places.f k a0_0 a0_1 a0_2 l0_3 a1 a2).bind fun t1436 => (some (t1436, true))) else (some (([] : List Int), false)))) = some (r1, r2) := h); (clear h); (obtain ⟨y1432, hy1432⟩ : ∃ y_ : List Int, y_ = (([a1] : List Int)) := ⟨_, rfl⟩); (replace H : ((impl_isThrown.f a0_0 a0_1 a0_2 l0_3 a2 20 y1432).bind fun t1435 => (if t1435 = true then ((impl_Board_places.f k a0_0 a0_1 a0_2 l0_3 a1 a2).bind fun t1436 => (some (t1436, true))) else (some (([] : List Int), false)))) = some (r1, r2) := by first | (rw [hy1432]; with_reducible exact H) | (have H2_ := (Option.bind_some _ _).symm.trans H; rw [hy1432]; with_reducible exact H2_) | (have H2_ := (Option.bind_some _ _).symm.trans H; with_reducible exact H2_) | with_reducible exact H | (rw [hy1432]; exact H) | exact H); (have Ny1432 := Aside0.mk hy1432); (clear hy1432); (replace H := Option.bind_eq_some_iff.mp H); (obtain ⟨t1435, A40, H⟩ := H); (replace H : (if t1435 = true then ((impl_Board_places.f k a0_0 a0_1 a0_2 l0_3 a1 a2).bind fun t1436 => (some (t1436, true))) else (some (([] : List Int), false))) = some (r1, r2) := H); (have A4 := Aside0.mk A40); (clear A40); (by_cases c5 : t1435 = true)
  · subst c5
    (have H1 : ((impl_Board_places.f k a0_0 a0_1 a0_2 l0_3 a1 a2).bind fun t1436 => (some (t1436, true))) = some (r1, r2) := by rw [if_pos rfl] at H; exact H); (clear H); (have H := H1); (clear H1); (replace H := Option.bind_eq_some_iff.mp H); (obtain ⟨t1436, A60, H⟩ := H); (replace H : (some (t1436, true)) = some (r1, r2) := H); (have A6 := Aside0.mk A60); (clear A60); (simp only [Option.some.injEq, Prod.mk.injEq] at H); (obtain ⟨rfl, rfl⟩ := H); (go_enter Try.func91, Try.ntmps91); (go_wp2_with (first | ((with_reducible refine gate_dst (N := 3) rfl ?_); refine box_event ?hg (N := 3) ?hd (cs := #[.int .i64 a0_0, .int .i64 a0_1, .int .i64 a0_2, .slice A0_3 l0_3.length c0_3]) (t := 31) ?hr ?_; (case hd => rfl); (case hg => rfl); (case hr => exact zq19); intro gb1431 hg w7 hbox hb; have BK1431 := Aside0.mk (hbox); have GW1431 := Aside0.mk ((zq8 HB.out : w.heap.size ≤ gb1431)); have GE1431 := Aside0.mk ((zq8 HB.out : w.heap.size ≤ gb1431)); replace HB := Aside0.mk (below_step (zq15 HB.out) hb); clear hb hbox hg; obtain ⟨hcz8_0, hcz8_1, hcz8_2, hcz8_3, hfz8_0, hfz8_1, hfz8_2, hfz8_3⟩ := bk4_ BK1431.out) | ((with_reducible refine gate_dst (N := 11) rfl ?_); refine Kd.R_lit (Kd.int .i64) _ 3 ?hg (N := 11) ?hd (xs := ([a1] : List Int)) (inner := [.int .i64 a1]) (ok := fun _ => True) (okp := fun _ => True) ?hr ?hp (fun _ hk => hk) trivial (Below.refl _ _) (Nat.le_refl _) (by simp) ?_; (case hd => rfl); (case hg => rfl); (case hr => exact zq19); (case hp => exact (Reps.one (show Kd.M (Kd.int .i64) _ _ _ a1 [.int .i64 a1] from rfl) (Reps.none _ _))); intro v1433 w9 ho10 hb hg_ hnew_; clear hg_ hnew_; (first | rw [← Ny1432.out] at ho10 | (simp only [Int.reduceToNat] at ho10; rw [← Ny1432.out] at ho10)); have HO1434 := Aside0.mk (Kd.R_lower ho10 (below_size (zq2 HB.out GE1431.out))); replace BK1431 := Aside0.mk (zB BK1431.out hb); replace HB := Aside0.mk (below_step (zq2 HB.out GE1431.out) hb); clear hb ho10; obtain ⟨Ao11, co11, eo11⟩ := Kd.R_slice HO1434.out; subst eo11) | ((with_reducible refine gate_callee (f := 173) rfl ?_); refine goesL_ (some 12) rfl rfl Try.func173 (by kernel_rfl) rfl #[.agg #[.int .i64 a0_0, .int .i64 a0_1, .int .i64 a0_2, .slice A0_3 l0_3.length c0_3], .int .i64 a2, .int .i64 20, .slice Ao11 y1432.length co11] rfl zq6 ?_; (with_reducible refine (impl_isThrown.calls a0_0 a0_1 a0_2 _ _ l0_3 a2 20 _ _ y1432 true _ ?side1 ?side2 ?side3 ?side4 A4.out).mono ?_); (case side1 => exact zq10 HR0_3.out HB.out); (case side2 => exact HC0_3.out); (case side3 => exact zq12 HO1434.out); (case side4 => exact (Kd.R_reads' HO1434.out).2.1); rintro e w12 ⟨rfl, hb⟩; refine ⟨_, rfl, ?_⟩; replace HO1434 := Aside0.mk (Kd.R_below (zq3 HO1434.out) hb); replace BK1431 := Aside0.mk (zB BK1431.out hb); replace HB := Aside0.mk (below_step (zq2 HB.out GE1431.out) hb); (try clear hb); (try clear hb2); (try clear hk); (try clear hi); obtain ⟨hcz13_0, hcz13_1, hcz13_2, hcz13_3, hfz13_0, hfz13_1, hfz13_2, hfz13_3⟩ := bk4_ BK1431.out) | ((with_reducible refine gate_callee (f := 227) rfl ?_); refine goesL_ (some 17) rfl rfl Try.func227 (by kernel_rfl) rfl #[.agg #[.int .i64 a0_0, .int .i64 a0_1, .int .i64 a0_2, .slice A0_3 l0_3.length c0_3], .int .i64 a1, .int .i64 a2] rfl zq6 ?_; (with_reducible refine (impl_Board_places.calls k a0_0 a0_1 a0_2 _ _ l0_3 a1 a2 t1436 _ ?side1 ?side2 A6.out).mono ?_); (case side1 => exact zq10 HR0_3.out HB.out); (case side2 => exact HC0_3.out); rintro e w14 ⟨v1437, rfl, ho0, hb⟩; refine ⟨_, rfl, ?_⟩; have HO1438 := Aside0.mk (Kd.R_lower (Kd.R_new' ho0 (Kd.R_lt (zq3 HO1434.out))) (below_size (zq2 HB.out GE1431.out))); replace HO1434 := Aside0.mk (Kd.R_elder' (zq3 HO1434.out) (Kd.R_base ho0) hb); replace BK1431 := Aside0.mk (zB BK1431.out hb); replace HB := Aside0.mk (below_step (zq2 HB.out GE1431.out) hb); (try clear hb); (try clear hb2); (try clear hk); (try clear hi); (try clear ho0)))); (go_ret2); (exact ⟨_, zq16, zq50 HO1438.out, zq2 HB.out GE1431.out⟩)
  · replace c5 := Bool.eq_false_iff.mpr c5
    (subst c5); (have H1 : (some (([] : List Int), false)) = some (r1, r2) := by rw [if_neg (show ¬ (false = true) by decide)] at H; exact H); (clear H); (have H := H1); (clear H1); (simp only [Option.some.injEq, Prod.mk.injEq] at H); (obtain ⟨rfl, rfl⟩ := H); (go_enter Try.func91, Try.ntmps91); (go_wp2_with (first | ((with_reducible refine gate_dst (N := 3) rfl ?_); refine box_event ?hg (N := 3) ?hd (cs := #[.int .i64 a0_0, .int .i64 a0_1, .int .i64 a0_2, .slice A0_3 l0_3.length c0_3]) (t := 31) ?hr ?_; (case hd => rfl); (case hg => rfl); (case hr => exact zq19); intro gb1431 hg w15 hbox hb; have BK1431 := Aside0.mk (hbox); have GW1431 := Aside0.mk ((zq8 HB.out : w.heap.size ≤ gb1431)); have GE1431 := Aside0.mk ((zq8 HB.out : w.heap.size ≤ gb1431)); replace HB := Aside0.mk (below_step (zq15 HB.out) hb); clear hb hbox hg; obtain ⟨hcz16_0, hcz16_1, hcz16_2, hcz16_3, hfz16_0, hfz16_1, hfz16_2, hfz16_3⟩ := bk4_ BK1431.out) | ((with_reducible refine gate_dst (N := 11) rfl ?_); refine Kd.R_lit (Kd.int .i64) _ 3 ?hg (N := 11) ?hd (xs := ([a1] : List Int)) (inner := [.int .i64 a1]) (ok := fun _ => True) (okp := fun _ => True) ?hr ?hp (fun _ hk => hk) trivial (Below.refl _ _) (Nat.le_refl _) (by simp) ?_; (case hd => rfl); (case hg => rfl); (case hr => exact zq19); (case hp => exact (Reps.one (show Kd.M (Kd.int .i64) _ _ _ a1 [.int .i64 a1] from rfl) (Reps.none _ _))); intro v1433 w17 ho18 hb hg_ hnew_; clear hg_ hnew_; (first | rw [← Ny1432.out] at ho18 | (simp only [Int.reduceToNat] at ho18; rw [← Ny1432.out] at ho18)); have HO1434 := Aside0.mk (Kd.R_lower ho18 (below_size (zq2 HB.out GE1431.out))); replace BK1431 := Aside0.mk (zB BK1431.out hb); replace HB := Aside0.mk (below_step (zq2 HB.out GE1431.out) hb); clear hb ho18; obtain ⟨Ao19, co19, eo19⟩ := Kd.R_slice HO1434.out; subst eo19) | ((with_reducible refine gate_callee (f := 173) rfl ?_); refine goesL_ (some 12) rfl rfl Try.func173 (by kernel_rfl) rfl #[.agg #[.int .i64 a0_0, .int .i64 a0_1, .int .i64 a0_2, .slice A0_3 l0_3.length c0_3], .int .i64 a2, .int .i64 20, .slice Ao19 y1432.length co19] rfl zq6 ?_; (with_reducible refine (impl_isThrown.calls a0_0 a0_1 a0_2 _ _ l0_3 a2 20 _ _ y1432 false _ ?side1 ?side2 ?side3 ?side4 A4.out).mono ?_); (case side1 => exact zq10 HR0_3.out HB.out); (case side2 => exact HC0_3.out); (case side3 => exact zq12 HO1434.out); (case side4 => exact (Kd.R_reads' HO1434.out).2.1); rintro e w20 ⟨rfl, hb⟩; refine ⟨_, rfl, ?_⟩; replace HO1434 := Aside0.mk (Kd.R_below (zq3 HO1434.out) hb); replace BK1431 := Aside0.mk (zB BK1431.out hb); replace HB := Aside0.mk (below_step (zq2 HB.out GE1431.out) hb); (try clear hb); (try clear hb2); (try clear hk); (try clear hi)))); (go_ret2); (exact ⟨_, zq16, zq92, zq2 HB.out GE1431.out⟩)
end

section
def spec_DrawHalfDone.f (k : Nat) (l0 : List Int) : Option (Int × Int × Int × (List (S126)) × Int) := (spec_l1Cur_squared.f k l0 0 0).bind fun bt1441 => (some (bt1441.1, bt1441.2.1, bt1441.2.2.1, bt1441.2.2.2.1, bt1441.2.2.2.2.1))
theorem spec_DrawHalfDone.mono : ∀ a0 k, LeO (spec_DrawHalfDone.f k a0) (spec_DrawHalfDone.f (k + 1) a0) := by
  (intro a0 k); (unfold spec_DrawHalfDone.f); (exact (by repeat' first | (with_reducible exact spec_l1Cur_squared.mono _ _ _ _) | (with_reducible exact LeO.refl _) | (with_reducible exact LeO.none _) | (with_reducible refine LeO.ite ?_ ?_) | (with_reducible refine LeO.bind ?_ (fun _ => ?_)) | exact spec_l1Cur_squared.mono _ _ _ _ | exact LeO.none _ | refine LeO.ite ?_ ?_ | refine LeO.bind ?_ (fun _ => ?_)))
set_option maxHeartbeats 8000000 in
set_option maxRecDepth 100000 in
theorem spec_DrawHalfDone.calls (k : Nat) (A0 : Option Addr) (c0 : Nat) (l0 : List Int) (r1 : Int) (r2 : Int) (r3 : Int) (r4 : List (S126)) (r5 : Int) (w : World) (hr0 : Kd.C (Kd.int .u8) w A0 l0.length l0) (hc0 : l0.length ≤ c0) (h : spec_DrawHalfDone.f k l0 = some (r1, r2, r3, r4, r5)) :
    Calls Try.prog 92 #[.slice A0 l0.length c0] w fun e w' => ∃ v3_ : Value, e = .returned (.tuple #[.agg #[.int .i64 r1, .int .i64 r2, .int .i64 r3, v3_], .int .i64 r5]) ∧ Kd.R k126 126 w' w.heap.size (fun _ => True) v3_ r4 ∧ Below w.heap.size w w' := by
  (have hu31 := Try.underlying31); (have hu117 := Try.underlying117); (have HR0 := Aside0.mk hr0); (have HC0 := Aside0.mk hc0); (clear hr0 hc0); (have HB := Aside0.mk (Below.refl w.heap.size w)); (have H : ((spec_l1Cur_squared.f k l0 0 0).bind fun bt1441 => (some (bt1441.1, bt1441.2.1, bt1441.2.2.1, bt1441.2.2.2.1, bt1441.2.2.2.2.1))) = some (r1, r2, r3, r4, r5) := h); (clear h); (replace H := Option.bind_eq_some_iff.mp H); (obtain ⟨⟨t1441, t1442, t1443, t1444, t1447, t1448, t1449⟩, A20, H⟩ := H); (replace H : (some (t1441, t1442, t1443, t1444, t1447)) = some (r1, r2, r3, r4, r5) := H); (have A2 := Aside0.mk A20); (clear A20); (simp only [Option.some.injEq, Prod.mk.injEq] at H); (obtain ⟨rfl, rfl, rfl, rfl, rfl⟩ := H); (go_enter Try.func92, Try.ntmps92); (go_wp2_with (first | ((with_reducible refine gate_dst (N := 2) rfl ?_); refine box_event ?hg (N := 2) ?hd (cs := #[.int .i64 0, .int .i64 0, .int .i64 0, .slice none 0 0]) (t := 31) ?hr ?_; (case hd => rfl); (case hg => rfl); (case hr => exact zq19); intro gb1439 hg w3 hbox hb; have BK1439 := Aside0.mk (hbox); have GW1439 := Aside0.mk ((zq8 HB.out : w.heap.size ≤ gb1439)); have GE1439 := Aside0.mk ((zq8 HB.out : w.heap.size ≤ gb1439)); replace HB := Aside0.mk (below_step (zq15 HB.out) hb); clear hb hbox hg) | ((with_reducible refine gate_dst (N := 7) rfl ?_); refine box_event ?hg (N := 7) ?hd (cs := #[.slice A0 l0.length c0, .int .i64 0, .int .u64 0]) (t := 117) ?hr ?_; (case hd => rfl); (case hg => rfl); (case hr => exact zq19); intro gb1440 hg w4 hbox hb; have GW1440 := Aside0.mk ((zq35 HB.out GE1439.out : w.heap.size ≤ gb1440)); have GE1440 := Aside0.mk ((zq35 HB.out GE1439.out : w.heap.size ≤ gb1440)); have NB1439_1440 := Aside0.mk ((by rw [hg]; exact Nat.ne_of_lt (blk_lt (g := gb1439) (o := .cells #[.int .i64 0, .int .i64 0, .int .i64 0, .slice none 0 0] 31 (0, 0)) (by (with_reducible repeat (first | refine blk_drewN ?_ _ | refine blk_drew ?_ | refine blk_alloc ?_ _)); exact BK1439.out)) : gb1439 ≠ gb1440)); have NB1440_1439 := Aside0.mk ((by rw [hg]; exact Nat.ne_of_gt (blk_lt (g := gb1439) (o := .cells #[.int .i64 0, .int .i64 0, .int .i64 0, .slice none 0 0] 31 (0, 0)) (by (with_reducible repeat (first | refine blk_drewN ?_ _ | refine blk_drew ?_ | refine blk_alloc ?_ _)); exact BK1439.out)) : gb1440 ≠ gb1439)); replace BK1439 := Aside0.mk (zB BK1439.out hb); have HI1440 := Aside0.mk ((show IsS117 w w4 gb1440 l0 0 0 from ⟨A0, c0, hbox, (zq35 HB.out GE1439.out : w.heap.size ≤ gb1440), HR0.out⟩)); replace HB := Aside0.mk (below_step (zq2 HB.out GE1439.out) hb); clear hb hbox hg) | ((with_reducible refine gate_callee (f := 181) rfl ?_); refine goesL_ (some 9) rfl rfl Try.func181 (by kernel_rfl) rfl #[.pointer (some ⟨gb1440, 0, none⟩)] rfl zq6 ?_; (with_reducible refine (spec_l1Cur_squared.calls k gb1440 l0 0 0 t1441 t1442 t1443 t1444 t1447 t1448 t1449 w _ ?side1 ?side2 A2.out).mono ?_); (case side1 => exact zq24 HI1440.out NB1440_1439.out); (case side2 => exact zq20 HB.out HI1440.out GE1439.out); rintro e w5 ⟨v1445, rfl, ho0, hi, hb, hk⟩; refine ⟨_, rfl, ?_⟩; replace BK1439 := Aside0.mk (KeepBut.blk hk (g' := gb1439) (o := .cells #[.int .i64 0, .int .i64 0, .int .i64 0, .slice none 0 0] 31 (0, 0)) (zq1 BK1439.out) NB1439_1440.out (by simp)); have HO1446 := Aside0.mk (Kd.R_lower ho0 (below_size (zq20 HB.out HI1440.out GE1439.out))); replace HB := Aside0.mk (hb); replace HI1440 := Aside0.mk (hi); (try clear hb); (try clear hb2); (try clear hk); (try clear hi); (try clear ho0); have hnb6 := NB1439_1440.out; have hnc6 := NB1440_1439.out; obtain ⟨hcz7_0, hcz7_1, hcz7_2, hcz7_3, hfz7_0, hfz7_1, hfz7_2, hfz7_3⟩ := bk4_ BK1439.out; obtain ⟨Ao8, co8, eo8⟩ := Kd.R_slice HO1446.out; subst eo8))); (refine bodyPost_ret (results_ct rfl _ _ gb1439 31 #[.int .i64 t1441, .int .i64 t1442, .int .i64 t1443, .slice Ao8 t1444.length co8] (0, 0) _ rfl (by (with_reducible repeat (first | refine blk_drewN ?_ _ | refine blk_drew ?_ | refine blk_alloc ?_ _)); refine blk_put (cs := #[.int .i64 t1441, .int .i64 t1442, .int .i64 t1443, .slice none 0 0]) ?_ 3 _ rfl; (with_reducible repeat (first | refine blk_drewN ?_ _ | refine blk_drew ?_ | refine blk_alloc ?_ _)); refine blk_put (cs := #[.int .i64 t1441, .int .i64 t1442, .int .i64 0, .slice none 0 0]) ?_ 2 _ rfl; (with_reducible repeat (first | refine blk_drewN ?_ _ | refine blk_drew ?_ | refine blk_alloc ?_ _)); refine blk_put (cs := #[.int .i64 t1441, .int .i64 0, .int .i64 0, .slice none 0 0]) ?_ 1 _ rfl; (with_reducible repeat (first | refine blk_drewN ?_ _ | refine blk_drew ?_ | refine blk_alloc ?_ _)); refine blk_put (cs := #[.int .i64 0, .int .i64 0, .int .i64 0, .slice none 0 0]) ?_ 0 _ rfl; (with_reducible repeat (first | refine blk_drewN ?_ _ | refine blk_drew ?_ | refine blk_alloc ?_ _)); exact BK1439.out) Try.underlying31 rfl (by kernel_rfl)) rfl ?_); (exact ⟨_, zq16, by (with_reducible repeat (first | apply Kd.R_alloc | apply Kd.R_drewN | apply Kd.R_drew)); exact Kd.R_mono (Kd.R_far (p := ⟨gb1439, 3, none⟩) (Kd.R_far (p := ⟨gb1439, 2, none⟩) (Kd.R_far (p := ⟨gb1439, 1, none⟩) (Kd.R_far (p := ⟨gb1439, 0, none⟩) (Kd.R_types HO1446.out BK1439.out (by decide)) (fun _ hk => hk.2) (.int .i64 t1441)) (fun _ hk => hk.2) (.int .i64 t1442)) (fun _ hk => hk.2) (.int .i64 t1443)) (fun _ hk => hk.2) (.slice Ao8 t1444.length co8)) (fun _ hk => trivial), zq20 HB.out HI1440.out GE1439.out⟩)
end

section
def impl_HalfDone_lit.f (a b : Int) : Option Bool := some (decide (b ≤ wrap64 (2 * a)))
theorem impl_HalfDone_lit.calls (a b : Int) (r : Bool) (w : World) (h : impl_HalfDone_lit.f a b = some r) : Calls Try.prog 230 #[.int .i64 a, .int .i64 b] w fun e w' => e = .returned (.bool r) ∧ Drawn0 w w' := by
  (obtain rfl : decide (b ≤ wrap64 (2 * a)) = r := by simpa [impl_HalfDone_lit.f] using h); (go_enter Try.func230, Try.ntmps230); (go_wp2); (go_ret); (exact ⟨rfl, Drawn0.refl w⟩)
end

section
def impl_AllDone_lit.f (a b : Int) : Option Bool := some (a == b)
theorem impl_AllDone_lit.calls (a b : Int) (r : Bool) (w : World) (h : impl_AllDone_lit.f a b = some r) : Calls Try.prog 233 #[.int .i64 a, .int .i64 b] w fun e w' => e = .returned (.bool r) ∧ Drawn0 w w' := by
  (obtain rfl : (a == b) = r := by simpa [impl_AllDone_lit.f] using h); (go_enter Try.func233, Try.ntmps233); (go_wp2); (go_ret); (exact ⟨rfl, Drawn0.refl w⟩)
end

section
def impl_firstHalf.l0 : Nat → List Int → Int → Int → Int → Int → Int → List (S126) → Option (Int × Bool)
  | 0, _, _, _, _, _, _, _ => none
  | k + 1, x8, x9, x10, x133000, x133001, x133002, x133003 => if x10 ≤ 20 then (if 0 ≤ x133000 then (if x133000 < (x8.length : Int) then ((impl_HalfDone_lit.f (rd x8 x133000) x9).bind fun t141 => (if t141 = true then (some (x10, true)) else (if x10 < 20 then ((impl_Board_next.f k x133000 x133001 x133002 x133003 x8).bind fun t142 => (impl_firstHalf.l0 k t142 (wrap64 (x9 * x133001)) (wrap64 (x10 + 1)) x133000 x133001 x133002 x133003)) else (impl_firstHalf.l0 k x8 x9 (wrap64 (x10 + 1)) x133000 x133001 x133002 x133003)))) else (none)) else (none)) else (some (0, false))
def impl_firstHalf.f (k : Nat) (a0_0 : Int) (a0_1 : Int) (a0_2 : Int) (l0_3 : List (S126)) (a1 : Int) : Option (Int × Bool) := (impl_areSquares.f a0_0 a0_1 a0_2 l0_3 (([a1] : List Int))).bind fun t136 => (if t136 = true then ((impl_Board_startOf.f a0_0 a0_1 a0_2 l0_3 a1).bind fun t137 => (impl_firstHalf.l0 k t137 1 0 a0_0 a0_1 a0_2 l0_3)) else (some (0, false)))
theorem impl_firstHalf.mono_l : ∀ k, (∀ y0 y1 y2 y3 y4 y5 y6, LeO (impl_firstHalf.l0 k y0 y1 y2 y3 y4 y5 y6) (impl_firstHalf.l0 (k + 1) y0 y1 y2 y3 y4 y5 y6))
  | 0 => fun _ _ _ _ _ _ _ r h => by simp [impl_firstHalf.l0] at h
  | k + 1 => by
    have ih0 := impl_firstHalf.mono_l k
    · intro y0 y1 y2 y3 y4 y5 y6
      (unfold impl_firstHalf.l0); (exact zq37)
theorem impl_firstHalf.mono : ∀ a0 a1 a2 a3 a4 k, LeO (impl_firstHalf.f k a0 a1 a2 a3 a4) (impl_firstHalf.f (k + 1) a0 a1 a2 a3 a4) := by
  (intro a0 a1 a2 a3 a4 k); (have ih0 := impl_firstHalf.mono_l k); (unfold impl_firstHalf.f); (exact zq37)
def impl_firstHalf.T10 : Bool × List (List Nat × List Nat) := (true, [([], []), ([], []), ([0, 1], [0, 1]), ([], []), ([], []), ([4], [4]), ([3, 5], [3, 5]), ([2, 2, 0, 1, 2], [1, 2]), ([6, 7, 0, 1, 2, 3, 4, 5, 6, 7], [3, 6])])
def impl_firstHalf.B10 : List Nat := [0, 0, 3, 0, 0, 16, 56, 7, 255]
theorem impl_firstHalf.tab10 : rtab .any (opsOf Try.f229 10) = impl_firstHalf.T10 := by kernel_rfl
theorem impl_firstHalf.bits10 : waitsOk impl_firstHalf.T10.2 impl_firstHalf.B10 = true := by kernel_rfl
set_option maxHeartbeats 8000000 in
set_option maxRecDepth 100000 in
theorem impl_firstHalf.calls (k : Nat) (a0_0 : Int) (a0_1 : Int) (a0_2 : Int) (A0_3 : Option Addr) (c0_3 : Nat) (l0_3 : List (S126)) (a1 : Int) (r1 : Int) (r2 : Bool) (w : World) (hr0_3 : Kd.C k126 w A0_3 l0_3.length l0_3) (hc0_3 : l0_3.length ≤ c0_3) (h : impl_firstHalf.f k a0_0 a0_1 a0_2 l0_3 a1 = some (r1, r2)) :
    Calls Try.prog 229 #[.agg #[.int .i64 a0_0, .int .i64 a0_1, .int .i64 a0_2, .slice A0_3 l0_3.length c0_3], .int .i64 a1, (.func (.func 230) #[] #[])] w fun e w' => e = .returned (.tuple #[.int .i64 r1, .bool r2]) ∧ Below w.heap.size w w' := by
  (have hu31 := Try.underlying31); (have HR0_3 := Aside0.mk hr0_3); (have HC0_3 := Aside0.mk hc0_3); (clear hr0_3 hc0_3); (have HB := Aside0.mk (Below.refl w.heap.size w)); (have H : ((impl_areSquares.f a0_0 a0_1 a0_2 l0_3 (([a1] : List Int))).bind fun t136 => (if t136 = true then ((impl_Board_startOf.f a0_0 a0_1 a0_2 l0_3 a1).bind fun t137 => (impl_firstHalf.l0 k t137 1 0 a0_0 a0_1 a0_2 l0_3)) else (some (0, false)))) = some (r1, r2) := h); (clear h); (obtain ⟨y133, hy133⟩ : ∃ y_ : List Int, y_ = (([a1] : List Int)) := ⟨_, rfl⟩); (replace H : ((impl_areSquares.f a0_0 a0_1 a0_2 l0_3 y133).bind fun t136 => (if t136 = true then ((impl_Board_startOf.f a0_0 a0_1 a0_2 l0_3 a1).bind fun t137 => (impl_firstHalf.l0 k t137 1 0 a0_0 a0_1 a0_2 l0_3)) else (some (0, false)))) = some (r1, r2) := by first | (rw [hy133]; with_reducible exact H) | (have H2_ := (Option.bind_some _ _).symm.trans H; rw [hy133]; with_reducible exact H2_) | (have H2_ := (Option.bind_some _ _).symm.trans H; with_reducible exact H2_) | with_reducible exact H | (rw [hy133]; exact H) | exact H); (have Ny133 := Aside0.mk hy133); (clear hy133); (replace H := Option.bind_eq_some_iff.mp H); (obtain ⟨t136, A40, H⟩ := H); (replace H : (if t136 = true then ((impl_Board_startOf.f a0_0 a0_1 a0_2 l0_3 a1).bind fun t137 => (impl_firstHalf.l0 k t137 1 0 a0_0 a0_1 a0_2 l0_3)) else (some (0, false))) = some (r1, r2) := H); (have A4 := Aside0.mk A40); (clear A40); (by_cases c5 : t136 = true)
  · subst c5
    (have H1 : ((impl_Board_startOf.f a0_0 a0_1 a0_2 l0_3 a1).bind fun t137 => (impl_firstHalf.l0 k t137 1 0 a0_0 a0_1 a0_2 l0_3)) = some (r1, r2) := by rw [if_pos rfl] at H; exact H); (clear H); (have H := H1); (clear H1); (replace H := Option.bind_eq_some_iff.mp H); (obtain ⟨t137, A60, H⟩ := H); (replace H : (impl_firstHalf.l0 k t137 1 0 a0_0 a0_1 a0_2 l0_3) = some (r1, r2) := H); (have A6 := Aside0.mk A60); (clear A60); (have H' := Aside0.mk H); (clear H); (go_enter Try.func229, Try.ntmps229); (go_wp2_with (first | ((with_reducible refine gate_dst (N := 3) rfl ?_); refine box_event ?hg (N := 3) ?hd (cs := #[.int .i64 a0_0, .int .i64 a0_1, .int .i64 a0_2, .slice A0_3 l0_3.length c0_3]) (t := 31) ?hr ?_; (case hd => rfl); (case hg => rfl); (case hr => exact zq19); intro gb132 hg w7 hbox hb; have BK132 := Aside0.mk (hbox); have GW132 := Aside0.mk ((zq8 HB.out : w.heap.size ≤ gb132)); have GE132 := Aside0.mk ((zq8 HB.out : w.heap.size ≤ gb132)); replace HB := Aside0.mk (below_step (zq15 HB.out) hb); clear hb hbox hg; obtain ⟨hcz8_0, hcz8_1, hcz8_2, hcz8_3, hfz8_0, hfz8_1, hfz8_2, hfz8_3⟩ := bk4_ BK132.out) | ((with_reducible refine gate_dst (N := 13) rfl ?_); refine Kd.R_lit (Kd.int .i64) _ 3 ?hg (N := 13) ?hd (xs := ([a1] : List Int)) (inner := [.int .i64 a1]) (ok := fun _ => True) (okp := fun _ => True) ?hr ?hp (fun _ hk => hk) trivial (Below.refl _ _) (Nat.le_refl _) (by simp) ?_; (case hd => rfl); (case hg => rfl); (case hr => exact zq19); (case hp => exact (Reps.one (show Kd.M (Kd.int .i64) _ _ _ a1 [.int .i64 a1] from rfl) (Reps.none _ _))); intro v134 w9 ho10 hb hg_ hnew_; clear hg_ hnew_; (first | rw [← Ny133.out] at ho10 | (simp only [Int.reduceToNat] at ho10; rw [← Ny133.out] at ho10)); have HO135 := Aside0.mk (Kd.R_lower ho10 (below_size (zq2 HB.out GE132.out))); replace BK132 := Aside0.mk (zB BK132.out hb); replace HB := Aside0.mk (below_step (zq2 HB.out GE132.out) hb); clear hb ho10; obtain ⟨Ao11, co11, eo11⟩ := Kd.R_slice HO135.out; subst eo11) | ((with_reducible refine gate_callee (f := 191) rfl ?_); refine goesL_ (some 14) rfl rfl Try.func191 (by kernel_rfl) rfl #[.agg #[.int .i64 a0_0, .int .i64 a0_1, .int .i64 a0_2, .slice A0_3 l0_3.length c0_3], .slice Ao11 y133.length co11] rfl zq6 ?_; (with_reducible refine (impl_areSquares.calls a0_0 a0_1 a0_2 _ _ l0_3 _ _ y133 true _ ?side1 ?side2 ?side3 ?side4 A4.out).mono ?_); (case side1 => exact zq10 HR0_3.out HB.out); (case side2 => exact HC0_3.out); (case side3 => exact zq12 HO135.out); (case side4 => exact (Kd.R_reads' HO135.out).2.1); rintro e w12 ⟨rfl, hb⟩; refine ⟨_, rfl, ?_⟩; replace HO135 := Aside0.mk (Kd.R_below (zq3 HO135.out) hb); replace BK132 := Aside0.mk (zB BK132.out hb); replace HB := Aside0.mk (below_step (zq2 HB.out GE132.out) hb); (try clear hb); (try clear hb2); (try clear hk); (try clear hi); obtain ⟨hcz13_0, hcz13_1, hcz13_2, hcz13_3, hfz13_0, hfz13_1, hfz13_2, hfz13_3⟩ := bk4_ BK132.out) | ((with_reducible refine gate_callee (f := 174) rfl ?_); refine goesL_ (some 18) rfl rfl Try.func174 (by kernel_rfl) rfl #[.agg #[.int .i64 a0_0, .int .i64 a0_1, .int .i64 a0_2, .slice A0_3 l0_3.length c0_3], .int .i64 a1] rfl zq6 ?_; (with_reducible refine (impl_Board_startOf.calls a0_0 a0_1 a0_2 _ _ l0_3 a1 t137 _ ?side1 ?side2 A6.out).mono ?_); (case side1 => exact zq10 HR0_3.out HB.out); (case side2 => exact HC0_3.out); rintro e w14 ⟨v138, rfl, ho0, hb⟩; refine ⟨_, rfl, ?_⟩; have HO139 := Aside0.mk (Kd.R_lower (Kd.R_new' ho0 (Kd.R_lt (zq3 HO135.out))) (below_size (zq2 HB.out GE132.out))); replace HO135 := Aside0.mk (Kd.R_elder' (zq3 HO135.out) (Kd.R_base ho0) hb); replace BK132 := Aside0.mk (zB BK132.out hb); replace HB := Aside0.mk (below_step (zq2 HB.out GE132.out) hb); (try clear hb); (try clear hb2); (try clear hk); (try clear hi); (try clear ho0)))); (go_loopg [8, 9, 10] k (fun kq v8 v9 v10 w' => ∃ (x8_1 : List Int) (x9_1 : Int) (x10_1 : Int), v9 = .int .i64 x9_1 ∧ v10 = .int .i64 x10_1 ∧ Aside0 (impl_firstHalf.l0 kq x8_1 x9_1 x10_1 a0_0 a0_1 a0_2 l0_3 = some (r1, r2)) ∧ Aside0 (kq ≤ k) ∧ Aside0 (Kd.R (Kd.int .i64) 3 w' w.heap.size (fun _ => True) v8 x8_1) ∧ Aside0 (w'.heap[gb132]? = some (.cells #[.int .i64 a0_0, .int .i64 a0_1, .int .i64 a0_2, (.slice A0_3 l0_3.length c0_3)] 31 (0, 0))) ∧ Aside0 (Below w.heap.size w w')))
    case atStart => exact ⟨(t137), (1), (0), zq25, zq25, H', ⟨Nat.le_refl _⟩, ⟨zq50 HO139.out⟩, ⟨zq1 BK132.out⟩, ⟨zq2 HB.out GE132.out⟩⟩
    case round =>
      (clear H'); (try clear c1); (try clear c2); (try clear p2); (try clear c5); (try clear hcz13_0 hcz13_1 hcz13_2 hcz13_3); (try clear hcz8_0 hcz8_1 hcz8_2 hcz8_3); (try clear hfz13_0 hfz13_1 hfz13_2 hfz13_3); (try clear hfz8_0 hfz8_1 hfz8_2 hfz8_3); (obtain ⟨x8_1, x9_1, x10_1, rfl, rfl, HA, HK1, HO_8, BK132, HB⟩ := hrel)
      cases gk with
      | zero => exact absurd HA.out (by simp [impl_firstHalf.l0])
      | succ k1 =>
        (have H := HA.out); (clear HA); (simp only [impl_firstHalf.l0] at H); (by_cases c15 : x10_1 ≤ 20)
        · rw [if_pos c15] at H
          (have c15b0 : decide (x10_1 ≤ 20) = true := decide_eq_true c15); (clear c15); (by_cases c16 : 0 ≤ a0_0)
          · rw [if_pos c16] at H
            (have c16b0 : decide (0 ≤ a0_0) = true := decide_eq_true c16); (clear c16); (by_cases c17 : a0_0 < (x8_1.length : Int))
            · rw [if_pos c17] at H
              (have c17b0 : decide (a0_0 < (x8_1.length : Int)) = true := decide_eq_true c17); (clear c17); (replace H := Option.bind_eq_some_iff.mp H); (obtain ⟨t141, A180, H⟩ := H); (replace H : (if t141 = true then (some (x10_1, true)) else (if x10_1 < 20 then ((impl_Board_next.f k1 a0_0 a0_1 a0_2 l0_3 x8_1).bind fun t142 => (impl_firstHalf.l0 k1 t142 (wrap64 (x9_1 * a0_1)) (wrap64 (x10_1 + 1)) a0_0 a0_1 a0_2 l0_3)) else (impl_firstHalf.l0 k1 x8_1 x9_1 (wrap64 (x10_1 + 1)) a0_0 a0_1 a0_2 l0_3))) = some (r1, r2) := H); (have A18 := Aside0.mk A180); (clear A180); (by_cases c19 : t141 = true)
              · subst c19
                (have H1 : (some (x10_1, true)) = some (r1, r2) := by rw [if_pos rfl] at H; exact H); (clear H); (have H := H1); (clear H1); (simp only [Option.some.injEq, Prod.mk.injEq] at H); (obtain ⟨rfl, rfl⟩ := H); (obtain ⟨hcz20_0, hcz20_1, hcz20_2, hcz20_3, hfz20_0, hfz20_1, hfz20_2, hfz20_3⟩ := bk4_ BK132.out); (obtain ⟨Ao21, co21, eo21⟩ := Kd.R_slice HO_8.out); (subst eo21); (have p140 : 0 ≤ (a0_0 : Int) := of_decide_eq_true zq17); (have q140 : a0_0 < (x8_1.length : Int) := of_decide_eq_true zq17); (obtain ⟨ad140, e140, hx140_0⟩ := Kd.at_int (Kd.R_reads' HO_8.out).2.2 a0_0 p140 q140); (cases e140); (replace p140 := eq_true p140); (replace q140 := eq_true q140); (go_wp2_with (first | (go_at_call 230; (with_reducible refine (impl_HalfDone_lit.calls (rd x8_1 a0_0) x9_1 true _ A18.out).mono ?_); rintro e w' ⟨rfl, ⟨nd, rfl⟩⟩))); (go_ret2); (exact ⟨zq16, zq2 HB.out GE132.out⟩)
              · replace c19 := Bool.eq_false_iff.mpr c19
                (subst c19); (have H1 : (if x10_1 < 20 then ((impl_Board_next.f k1 a0_0 a0_1 a0_2 l0_3 x8_1).bind fun t142 => (impl_firstHalf.l0 k1 t142 (wrap64 (x9_1 * a0_1)) (wrap64 (x10_1 + 1)) a0_0 a0_1 a0_2 l0_3)) else (impl_firstHalf.l0 k1 x8_1 x9_1 (wrap64 (x10_1 + 1)) a0_0 a0_1 a0_2 l0_3)) = some (r1, r2) := by rw [if_neg (show ¬ (false = true) by decide)] at H; exact H); (clear H); (have H := H1); (clear H1); (by_cases c22 : x10_1 < 20)
                · rw [if_pos c22] at H
                  (have c22b0 : decide (x10_1 < 20) = true := decide_eq_true c22); (clear c22); (replace H := Option.bind_eq_some_iff.mp H); (obtain ⟨t142, A230, H⟩ := H); (replace H : (impl_firstHalf.l0 k1 t142 (wrap64 (x9_1 * a0_1)) (wrap64 (x10_1 + 1)) a0_0 a0_1 a0_2 l0_3) = some (r1, r2) := H); (have A23 := Aside0.mk A230); (clear A230); (have H' := Aside0.mk H); (clear H); (obtain ⟨hcz24_0, hcz24_1, hcz24_2, hcz24_3, hfz24_0, hfz24_1, hfz24_2, hfz24_3⟩ := bk4_ BK132.out); (obtain ⟨Ao25, co25, eo25⟩ := Kd.R_slice HO_8.out); (subst eo25); (have p140 : 0 ≤ (a0_0 : Int) := of_decide_eq_true zq17); (have q140 : a0_0 < (x8_1.length : Int) := of_decide_eq_true zq17); (obtain ⟨ad140, e140, hx140_0⟩ := Kd.at_int (Kd.R_reads' HO_8.out).2.2 a0_0 p140 q140); (cases e140); (replace p140 := eq_true p140); (replace q140 := eq_true q140); (try go_wp2_with (first | (go_at_call 230; (with_reducible refine (impl_HalfDone_lit.calls (rd x8_1 a0_0) x9_1 false _ A18.out).mono ?_); rintro e w' ⟨rfl, ⟨nd, rfl⟩⟩))); ((try (rw [drewN_self wr]; generalize hq_ : World.drewN wr _ = wr; have n0_ : Aside0 (Kd.R (Kd.int .i64) 3 wr w.heap.size (fun _ => True) (.slice (some ad140) x8_1.length co25) x8_1) := ⟨by rw [← hq_]; exact (by (with_reducible repeat (first | apply Kd.R_alloc | apply Kd.R_drewN | apply Kd.R_drew)); exact HO_8.out)⟩; have n1_ : Aside0 (wr.heap[gb132]? = some (.cells #[.int .i64 a0_0, .int .i64 a0_1, .int .i64 a0_2, .slice A0_3 l0_3.length c0_3] 31 (0, 0))) := ⟨by rw [← hq_]; exact (by (with_reducible repeat (first | refine blk_drewN ?_ _ | refine blk_drew ?_ | refine blk_alloc ?_ _)); exact BK132.out)⟩; have n2_ : Aside0 (Below w.heap.size w wr) := ⟨zq96 HB.out GE132.out⟩; clear HO_8 BK132 HB hq_; have HO_8 := n0_; have BK132 := n1_; have HB := n2_; clear n0_ n1_ n2_))); (have n0_ := Aside0.mk (Kd.R_drew HO_8.out)); (have n1_ := Aside0.mk (blk_drew BK132.out)); (have n2_ := Aside0.mk (below_drew1 HB.out)); (clear HO_8); (clear BK132); (clear HB); (have HO_8 := n0_); (have BK132 := n1_); (have HB := n2_); (clear n0_ n1_ n2_); (refine start_ (n := 9) (S := fun w' => w'.cell? ⟨gb132, 0, none⟩ = some (.int .i64 a0_0) ∧ w'.cell? ⟨gb132, 1, none⟩ = some (.int .i64 a0_1) ∧ w'.cell? ⟨gb132, 2, none⟩ = some (.int .i64 a0_2) ∧ w'.cell? ⟨gb132, 3, none⟩ = some (.slice A0_3 l0_3.length c0_3)) (ds := []) #[false, false, false, false, false, false, false, false, false] (by kernel_rfl) rfl rfl ⟨(blk_cell BK132.out 0).trans rfl, (blk_cell BK132.out 1).trans rfl, (blk_cell BK132.out 2).trans rfl, (blk_cell BK132.out 3).trans rfl⟩ (fun hHeld => ?_); refine with_tabW impl_firstHalf.tab10 impl_firstHalf.bits10 (fun HT_ HW_ => ?_)); (generalize wr.drew = w26 at HO_8 BK132 HB hHeld ⊢); (refine pure_ (i := 1) (N := some 35) (v := ?_) (a' := ?_) #[false, true, false, false, false, false, false, false, false] rfl rfl (any_of HT_.out (by kernel_rfl)) (fun _ _ _ h => h) (Or.inl ⟨by rfl, ?_⟩) ?_ ?_); (rotate_left)
                  · intro w'
                    (go_simp); (with_reducible rfl)
                  rotate_left
                  · simp only [Act.put, List.setIfInBounds_toArray, List.set_cons_zero, List.set_cons_succ, i64_w, i32_w]
                    rfl
                  (refine pure_ (i := 3) (N := some 37) (v := ?_) (a' := ?_) #[false, true, false, true, false, false, false, false, false] rfl rfl (any_of HT_.out (by kernel_rfl)) (fun _ _ _ h => h) (Or.inl ⟨by rfl, ?_⟩) ?_ ?_); (rotate_left)
                  · intro w'
                    (go_simp); (with_reducible rfl)
                  rotate_left
                  · simp only [Act.put, List.setIfInBounds_toArray, List.set_cons_zero, List.set_cons_succ, i64_w, i32_w]
                    rfl
                  (refine pure_ (i := 4) (N := some 38) (v := ?_) (a' := ?_) #[false, true, false, true, true, false, false, false, false] rfl rfl (any_of HT_.out (by kernel_rfl)) (fun _ _ _ h => h) (Or.inl ⟨by rfl, ?_⟩) ?_ ?_); (rotate_left)
                  · intro w'
                    (go_simp); (with_reducible rfl)
                  rotate_left
                  · simp only [Act.put, List.setIfInBounds_toArray, List.set_cons_zero, List.set_cons_succ, i64_w, i32_w]
                    rfl
                  (refine take_ (i := 0) (N := some 34) (v := ?_) (a' := ?_) #[true, true, false, true, true, false, false, false, false] rfl rfl (take_ofW HT_.out HW_.out (by kernel_rfl)) (fun _ _ _ h => h) (Or.inl ⟨by rfl, ?_⟩) hHeld ?_ ?_); (rotate_left)
                  · rintro w' ⟨s0, s1, s2, s3⟩
                    (go_simp); (with_reducible rfl)
                  rotate_left
                  · simp only [Act.put, List.setIfInBounds_toArray, List.set_cons_zero, List.set_cons_succ, i64_w, i32_w]
                    rfl
                  (refine take_ (i := 5) (N := some 39) (v := ?_) (a' := ?_) #[true, true, false, true, true, true, false, false, false] rfl rfl (take_ofW HT_.out HW_.out (by kernel_rfl)) (fun _ _ _ h => h) (Or.inl ⟨by rfl, ?_⟩) hHeld ?_ ?_); (rotate_left)
                  · rintro w' ⟨s0, s1, s2, s3⟩
                    (go_simp); (with_reducible rfl)
                  rotate_left
                  · simp only [Act.put, List.setIfInBounds_toArray, List.set_cons_zero, List.set_cons_succ, i64_w, i32_w]
                    rfl
                  (refine pure_ (i := 6) (N := some 40) (v := ?_) (a' := ?_) #[true, true, false, true, true, true, true, false, false] rfl rfl (any_of HT_.out (by kernel_rfl)) (fun _ _ _ h => h) (Or.inl ⟨by rfl, ?_⟩) ?_ ?_); (rotate_left)
                  · intro w'
                    (go_simp); (with_reducible rfl)
                  rotate_left
                  · simp only [Act.put, List.setIfInBounds_toArray, List.set_cons_zero, List.set_cons_succ, i64_w, i32_w]
                    rfl
                  (refine one_ (i := 2) (N := some 36) #[true, true, true, true, true, true, true, false, false] rfl rfl (one_of HT_.out (by kernel_rfl)) (by decide) (fun K hK => ?_)); (refine goes_ Try.func175 (by kernel_rfl) rfl #[.agg #[.int .i64 a0_0, .int .i64 a0_1, .int .i64 a0_2, .slice A0_3 l0_3.length c0_3], .slice (some ad140) x8_1.length co25] (by rfl) rfl rfl zq6 ?_); (with_reducible refine (impl_Board_next.calls k1 a0_0 a0_1 a0_2 _ _ l0_3 _ _ x8_1 t142 _ ?side1 ?side2 ?side3 ?side4 A23.out).mono ?_); ((case side1 => exact zq10 HR0_3.out HB.out)); ((case side2 => exact HC0_3.out)); ((case side3 => exact zq12 HO_8.out)); ((case side4 => exact (Kd.R_reads' HO_8.out).2.1)); (rintro e w27 ⟨v143, rfl, ho0, hb⟩); (refine ⟨_, rfl, ?_⟩); (have n0_ := Aside0.mk (Kd.R_elder' (zq3 HO_8.out) (Kd.R_base ho0) hb)); (have n1_ := Aside0.mk (Kd.R_lower (Kd.R_new' ho0 (Kd.R_lt (zq3 HO_8.out))) (below_size (zq2 HB.out GE132.out)))); (have n2_ := Aside0.mk (zB BK132.out hb)); (have n3_ := Aside0.mk (below_step (zq2 HB.out GE132.out) hb)); (clear HO_8); (clear BK132); (clear HB); (have HO_8 := n0_); (have HO144 := n1_); (have BK132 := n2_); (have HB := n3_); (clear n0_ n1_ n2_ n3_); ((try clear hb)); ((try clear hb2)); ((try clear hk)); ((try clear hi)); ((try clear ho0)); (refine hK.out _ _ ⟨(blk_cell BK132.out 0).trans rfl, (blk_cell BK132.out 1).trans rfl, (blk_cell BK132.out 2).trans rfl, (blk_cell BK132.out 3).trans rfl⟩ (fun hHeld => ?_)); (clear hK K); (refine norm_ (a' := ?_) ?_ ?_); (rotate_left)
                  · show Act.put _ (some 36) _ = _
                    (simp only [Act.put, List.setIfInBounds_toArray, List.set_cons_zero, List.set_cons_succ, i64_w, i32_w]); (rfl)
                  (refine pure_ (i := 7) (N := some 8) (v := ?_) (a' := ?_) #[true, true, true, true, true, true, true, true, false] rfl rfl (any_of HT_.out (by kernel_rfl)) (fun _ _ _ h => h) (Or.inl ⟨by rfl, ?_⟩) ?_ ?_); (rotate_left)
                  · intro w'
                    (go_simp); (with_reducible rfl)
                  rotate_left
                  · simp only [Act.put, List.setIfInBounds_toArray, List.set_cons_zero, List.set_cons_succ, i64_w, i32_w]
                    rfl
                  (refine pure_ (i := 8) (N := some 9) (v := ?_) (a' := ?_) #[true, true, true, true, true, true, true, true, true] rfl rfl (any_of HT_.out (by kernel_rfl)) (fun _ _ _ h => h) (Or.inl ⟨by rfl, ?_⟩) ?_ ?_); (rotate_left)
                  · intro w'
                    (go_simp); (with_reducible rfl)
                  rotate_left
                  · simp only [Act.put, List.setIfInBounds_toArray, List.set_cons_zero, List.set_cons_succ, i64_w, i32_w]
                    rfl
                  (refine done_ (done_of HT_.out (by kernel_rfl)) ?_); (try go_wp2); (go_roundg k1)
                  case measure => have := HK1.out; omega
                  case rel => exact ⟨(t142), (wrap64 (x9_1 * a0_1)), (wrap64 (x10_1 + 1)), zq25, zq25, H', ⟨by have := HK1.out; omega⟩, ⟨zq50 HO144.out⟩, ⟨zq1 BK132.out⟩, ⟨zq2 HB.out GE132.out⟩⟩
                · rw [if_neg c22] at H
                  (have c22b0 : decide (x10_1 < 20) = false := decide_eq_false c22); (clear c22); (have H' := Aside0.mk H); (clear H); (obtain ⟨hcz28_0, hcz28_1, hcz28_2, hcz28_3, hfz28_0, hfz28_1, hfz28_2, hfz28_3⟩ := bk4_ BK132.out); (obtain ⟨Ao29, co29, eo29⟩ := Kd.R_slice HO_8.out); (subst eo29); (have p140 : 0 ≤ (a0_0 : Int) := of_decide_eq_true zq17); (have q140 : a0_0 < (x8_1.length : Int) := of_decide_eq_true zq17); (obtain ⟨ad140, e140, hx140_0⟩ := Kd.at_int (Kd.R_reads' HO_8.out).2.2 a0_0 p140 q140); (cases e140); (replace p140 := eq_true p140); (replace q140 := eq_true q140); (go_wp2_with (first | (go_at_call 230; (with_reducible refine (impl_HalfDone_lit.calls (rd x8_1 a0_0) x9_1 false _ A18.out).mono ?_); rintro e w' ⟨rfl, ⟨nd, rfl⟩⟩))); (go_roundg k1)
                  case measure => have := HK1.out; omega
                  case rel => exact ⟨(x8_1), (x9_1), (wrap64 (x10_1 + 1)), zq25, zq25, H', ⟨by have := HK1.out; omega⟩, ⟨zq3 HO_8.out⟩, ⟨zq1 BK132.out⟩, ⟨zq2 HB.out GE132.out⟩⟩
            · rw [if_neg c17] at H
              exact absurd H (by simp)
          · rw [if_neg c16] at H
            exact absurd H (by simp)
        · rw [if_neg c15] at H
          (have c15b0 : decide (x10_1 ≤ 20) = false := decide_eq_false c15); (clear c15); (simp only [Option.some.injEq, Prod.mk.injEq] at H); (obtain ⟨rfl, rfl⟩ := H); (go_wp2); (go_ret2); (exact ⟨zq16, zq2 HB.out GE132.out⟩)
  · replace c5 := Bool.eq_false_iff.mpr c5
    (subst c5); (have H1 : (some (0, false)) = some (r1, r2) := by rw [if_neg (show ¬ (false = true) by decide)] at H; exact H); (clear H); (have H := H1); (clear H1); (simp only [Option.some.injEq, Prod.mk.injEq] at H); (obtain ⟨rfl, rfl⟩ := H); (go_enter Try.func229, Try.ntmps229); (go_wp2_with (first | ((with_reducible refine gate_dst (N := 3) rfl ?_); refine box_event ?hg (N := 3) ?hd (cs := #[.int .i64 a0_0, .int .i64 a0_1, .int .i64 a0_2, .slice A0_3 l0_3.length c0_3]) (t := 31) ?hr ?_; (case hd => rfl); (case hg => rfl); (case hr => exact zq19); intro gb132 hg w30 hbox hb; have BK132 := Aside0.mk (hbox); have GW132 := Aside0.mk ((zq8 HB.out : w.heap.size ≤ gb132)); have GE132 := Aside0.mk ((zq8 HB.out : w.heap.size ≤ gb132)); replace HB := Aside0.mk (below_step (zq15 HB.out) hb); clear hb hbox hg; obtain ⟨hcz31_0, hcz31_1, hcz31_2, hcz31_3, hfz31_0, hfz31_1, hfz31_2, hfz31_3⟩ := bk4_ BK132.out) | ((with_reducible refine gate_dst (N := 13) rfl ?_); refine Kd.R_lit (Kd.int .i64) _ 3 ?hg (N := 13) ?hd (xs := ([a1] : List Int)) (inner := [.int .i64 a1]) (ok := fun _ => True) (okp := fun _ => True) ?hr ?hp (fun _ hk => hk) trivial (Below.refl _ _) (Nat.le_refl _) (by simp) ?_; (case hd => rfl); (case hg => rfl); (case hr => exact zq19); (case hp => exact (Reps.one (show Kd.M (Kd.int .i64) _ _ _ a1 [.int .i64 a1] from rfl) (Reps.none _ _))); intro v134 w32 ho33 hb hg_ hnew_; clear hg_ hnew_; (first | rw [← Ny133.out] at ho33 | (simp only [Int.reduceToNat] at ho33; rw [← Ny133.out] at ho33)); have HO135 := Aside0.mk (Kd.R_lower ho33 (below_size (zq2 HB.out GE132.out))); replace BK132 := Aside0.mk (zB BK132.out hb); replace HB := Aside0.mk (below_step (zq2 HB.out GE132.out) hb); clear hb ho33; obtain ⟨Ao34, co34, eo34⟩ := Kd.R_slice HO135.out; subst eo34) | ((with_reducible refine gate_callee (f := 191) rfl ?_); refine goesL_ (some 14) rfl rfl Try.func191 (by kernel_rfl) rfl #[.agg #[.int .i64 a0_0, .int .i64 a0_1, .int .i64 a0_2, .slice A0_3 l0_3.length c0_3], .slice Ao34 y133.length co34] rfl zq6 ?_; (with_reducible refine (impl_areSquares.calls a0_0 a0_1 a0_2 _ _ l0_3 _ _ y133 false _ ?side1 ?side2 ?side3 ?side4 A4.out).mono ?_); (case side1 => exact zq10 HR0_3.out HB.out); (case side2 => exact HC0_3.out); (case side3 => exact zq12 HO135.out); (case side4 => exact (Kd.R_reads' HO135.out).2.1); rintro e w35 ⟨rfl, hb⟩; refine ⟨_, rfl, ?_⟩; replace HO135 := Aside0.mk (Kd.R_below (zq3 HO135.out) hb); replace BK132 := Aside0.mk (zB BK132.out hb); replace HB := Aside0.mk (below_step (zq2 HB.out GE132.out) hb); (try clear hb); (try clear hb2); (try clear hk); (try clear hi)))); (go_ret2); (exact ⟨zq16, zq2 HB.out GE132.out⟩)
def isHalfV (v : Value) : Bool := match v with | .func (.func n) fi ca => n == 230 && fi.size == 0 && ca.size == 0 | _ => false
theorem isHalfV_eq {v : Value} (h : isHalfV v = true) : v = (.func (.func 230) #[] #[]) := by
  (unfold isHalfV at h); (split at h)
  · simp only [Bool.and_eq_true, beq_iff_eq] at h
    (obtain ⟨⟨rfl, h1⟩, h2⟩ := h); (rw [Array.eq_empty_of_size_eq_zero h1, Array.eq_empty_of_size_eq_zero h2])
  · exact absurd h (by simp)
def impl_firstAll.l0 : Nat → List Int → Int → Int → Int → Int → Int → List (S126) → Option (Int × Bool)
  | 0, _, _, _, _, _, _, _ => none
  | k + 1, x8, x9, x10, x133000, x133001, x133002, x133003 => if x10 ≤ 20 then (if 0 ≤ x133000 then (if x133000 < (x8.length : Int) then ((impl_AllDone_lit.f (rd x8 x133000) x9).bind fun t141 => (if t141 = true then (some (x10, true)) else (if x10 < 20 then ((impl_Board_next.f k x133000 x133001 x133002 x133003 x8).bind fun t142 => (impl_firstAll.l0 k t142 (wrap64 (x9 * x133001)) (wrap64 (x10 + 1)) x133000 x133001 x133002 x133003)) else (impl_firstAll.l0 k x8 x9 (wrap64 (x10 + 1)) x133000 x133001 x133002 x133003)))) else (none)) else (none)) else (some (0, false))
def impl_firstAll.f (k : Nat) (a0_0 : Int) (a0_1 : Int) (a0_2 : Int) (l0_3 : List (S126)) (a1 : Int) : Option (Int × Bool) := (impl_areSquares.f a0_0 a0_1 a0_2 l0_3 (([a1] : List Int))).bind fun t136 => (if t136 = true then ((impl_Board_startOf.f a0_0 a0_1 a0_2 l0_3 a1).bind fun t137 => (impl_firstAll.l0 k t137 1 0 a0_0 a0_1 a0_2 l0_3)) else (some (0, false)))
theorem impl_firstAll.mono_l : ∀ k, (∀ y0 y1 y2 y3 y4 y5 y6, LeO (impl_firstAll.l0 k y0 y1 y2 y3 y4 y5 y6) (impl_firstAll.l0 (k + 1) y0 y1 y2 y3 y4 y5 y6))
  | 0 => fun _ _ _ _ _ _ _ r h => by simp [impl_firstAll.l0] at h
  | k + 1 => by
    have ih0 := impl_firstAll.mono_l k
    · intro y0 y1 y2 y3 y4 y5 y6
      (unfold impl_firstAll.l0); (exact zq37)
theorem impl_firstAll.mono : ∀ a0 a1 a2 a3 a4 k, LeO (impl_firstAll.f k a0 a1 a2 a3 a4) (impl_firstAll.f (k + 1) a0 a1 a2 a3 a4) := by
  (intro a0 a1 a2 a3 a4 k); (have ih0 := impl_firstAll.mono_l k); (unfold impl_firstAll.f); (exact zq37)
def impl_firstAll.T10 : Bool × List (List Nat × List Nat) := (true, [([], []), ([], []), ([0, 1], [0, 1]), ([], []), ([], []), ([4], [4]), ([3, 5], [3, 5]), ([2, 2, 0, 1, 2], [1, 2]), ([6, 7, 0, 1, 2, 3, 4, 5, 6, 7], [3, 6])])
def impl_firstAll.B10 : List Nat := [0, 0, 3, 0, 0, 16, 56, 7, 255]
theorem impl_firstAll.tab10 : rtab .any (opsOf Try.f229 10) = impl_firstAll.T10 := by kernel_rfl
theorem impl_firstAll.bits10 : waitsOk impl_firstAll.T10.2 impl_firstAll.B10 = true := by kernel_rfl
set_option maxHeartbeats 8000000 in
set_option maxRecDepth 100000 in
theorem impl_firstAll.calls (k : Nat) (a0_0 : Int) (a0_1 : Int) (a0_2 : Int) (A0_3 : Option Addr) (c0_3 : Nat) (l0_3 : List (S126)) (a1 : Int) (r1 : Int) (r2 : Bool) (w : World) (hr0_3 : Kd.C k126 w A0_3 l0_3.length l0_3) (hc0_3 : l0_3.length ≤ c0_3) (h : impl_firstAll.f k a0_0 a0_1 a0_2 l0_3 a1 = some (r1, r2)) :
    Calls Try.prog 229 #[.agg #[.int .i64 a0_0, .int .i64 a0_1, .int .i64 a0_2, .slice A0_3 l0_3.length c0_3], .int .i64 a1, (.func (.func 233) #[] #[])] w fun e w' => e = .returned (.tuple #[.int .i64 r1, .bool r2]) ∧ Below w.heap.size w w' := by
  (have hu31 := Try.underlying31); (have HR0_3 := Aside0.mk hr0_3); (have HC0_3 := Aside0.mk hc0_3); (clear hr0_3 hc0_3); (have HB := Aside0.mk (Below.refl w.heap.size w)); (have H : ((impl_areSquares.f a0_0 a0_1 a0_2 l0_3 (([a1] : List Int))).bind fun t136 => (if t136 = true then ((impl_Board_startOf.f a0_0 a0_1 a0_2 l0_3 a1).bind fun t137 => (impl_firstAll.l0 k t137 1 0 a0_0 a0_1 a0_2 l0_3)) else (some (0, false)))) = some (r1, r2) := h); (clear h); (obtain ⟨y133, hy133⟩ : ∃ y_ : List Int, y_ = (([a1] : List Int)) := ⟨_, rfl⟩); (replace H : ((impl_areSquares.f a0_0 a0_1 a0_2 l0_3 y133).bind fun t136 => (if t136 = true then ((impl_Board_startOf.f a0_0 a0_1 a0_2 l0_3 a1).bind fun t137 => (impl_firstAll.l0 k t137 1 0 a0_0 a0_1 a0_2 l0_3)) else (some (0, false)))) = some (r1, r2) := by first | (rw [hy133]; with_reducible exact H) | (have H2_ := (Option.bind_some _ _).symm.trans H; rw [hy133]; with_reducible exact H2_) | (have H2_ := (Option.bind_some _ _).symm.trans H; with_reducible exact H2_) | with_reducible exact H | (rw [hy133]; exact H) | exact H); (have Ny133 := Aside0.mk hy133); (clear hy133); (replace H := Option.bind_eq_some_iff.mp H); (obtain ⟨t136, A40, H⟩ := H); (replace H : (if t136 = true then ((impl_Board_startOf.f a0_0 a0_1 a0_2 l0_3 a1).bind fun t137 => (impl_firstAll.l0 k t137 1 0 a0_0 a0_1 a0_2 l0_3)) else (some (0, false))) = some (r1, r2) := H); (have A4 := Aside0.mk A40); (clear A40); (by_cases c5 : t136 = true)
  · subst c5
    (have H1 : ((impl_Board_startOf.f a0_0 a0_1 a0_2 l0_3 a1).bind fun t137 => (impl_firstAll.l0 k t137 1 0 a0_0 a0_1 a0_2 l0_3)) = some (r1, r2) := by rw [if_pos rfl] at H; exact H); (clear H); (have H := H1); (clear H1); (replace H := Option.bind_eq_some_iff.mp H); (obtain ⟨t137, A60, H⟩ := H); (replace H : (impl_firstAll.l0 k t137 1 0 a0_0 a0_1 a0_2 l0_3) = some (r1, r2) := H); (have A6 := Aside0.mk A60); (clear A60); (have H' := Aside0.mk H); (clear H); (go_enter Try.func229, Try.ntmps229); (go_wp2_with (first | ((with_reducible refine gate_dst (N := 3) rfl ?_); refine box_event ?hg (N := 3) ?hd (cs := #[.int .i64 a0_0, .int .i64 a0_1, .int .i64 a0_2, .slice A0_3 l0_3.length c0_3]) (t := 31) ?hr ?_; (case hd => rfl); (case hg => rfl); (case hr => exact zq19); intro gb132 hg w7 hbox hb; have BK132 := Aside0.mk (hbox); have GW132 := Aside0.mk ((zq8 HB.out : w.heap.size ≤ gb132)); have GE132 := Aside0.mk ((zq8 HB.out : w.heap.size ≤ gb132)); replace HB := Aside0.mk (below_step (zq15 HB.out) hb); clear hb hbox hg; obtain ⟨hcz8_0, hcz8_1, hcz8_2, hcz8_3, hfz8_0, hfz8_1, hfz8_2, hfz8_3⟩ := bk4_ BK132.out) | ((with_reducible refine gate_dst (N := 13) rfl ?_); refine Kd.R_lit (Kd.int .i64) _ 3 ?hg (N := 13) ?hd (xs := ([a1] : List Int)) (inner := [.int .i64 a1]) (ok := fun _ => True) (okp := fun _ => True) ?hr ?hp (fun _ hk => hk) trivial (Below.refl _ _) (Nat.le_refl _) (by simp) ?_; (case hd => rfl); (case hg => rfl); (case hr => exact zq19); (case hp => exact (Reps.one (show Kd.M (Kd.int .i64) _ _ _ a1 [.int .i64 a1] from rfl) (Reps.none _ _))); intro v134 w9 ho10 hb hg_ hnew_; clear hg_ hnew_; (first | rw [← Ny133.out] at ho10 | (simp only [Int.reduceToNat] at ho10; rw [← Ny133.out] at ho10)); have HO135 := Aside0.mk (Kd.R_lower ho10 (below_size (zq2 HB.out GE132.out))); replace BK132 := Aside0.mk (zB BK132.out hb); replace HB := Aside0.mk (below_step (zq2 HB.out GE132.out) hb); clear hb ho10; obtain ⟨Ao11, co11, eo11⟩ := Kd.R_slice HO135.out; subst eo11) | ((with_reducible refine gate_callee (f := 191) rfl ?_); refine goesL_ (some 14) rfl rfl Try.func191 (by kernel_rfl) rfl #[.agg #[.int .i64 a0_0, .int .i64 a0_1, .int .i64 a0_2, .slice A0_3 l0_3.length c0_3], .slice Ao11 y133.length co11] rfl zq6 ?_; (with_reducible refine (impl_areSquares.calls a0_0 a0_1 a0_2 _ _ l0_3 _ _ y133 true _ ?side1 ?side2 ?side3 ?side4 A4.out).mono ?_); (case side1 => exact zq10 HR0_3.out HB.out); (case side2 => exact HC0_3.out); (case side3 => exact zq12 HO135.out); (case side4 => exact (Kd.R_reads' HO135.out).2.1); rintro e w12 ⟨rfl, hb⟩; refine ⟨_, rfl, ?_⟩; replace HO135 := Aside0.mk (Kd.R_below (zq3 HO135.out) hb); replace BK132 := Aside0.mk (zB BK132.out hb); replace HB := Aside0.mk (below_step (zq2 HB.out GE132.out) hb); (try clear hb); (try clear hb2); (try clear hk); (try clear hi); obtain ⟨hcz13_0, hcz13_1, hcz13_2, hcz13_3, hfz13_0, hfz13_1, hfz13_2, hfz13_3⟩ := bk4_ BK132.out) | ((with_reducible refine gate_callee (f := 174) rfl ?_); refine goesL_ (some 18) rfl rfl Try.func174 (by kernel_rfl) rfl #[.agg #[.int .i64 a0_0, .int .i64 a0_1, .int .i64 a0_2, .slice A0_3 l0_3.length c0_3], .int .i64 a1] rfl zq6 ?_; (with_reducible refine (impl_Board_startOf.calls a0_0 a0_1 a0_2 _ _ l0_3 a1 t137 _ ?side1 ?side2 A6.out).mono ?_); (case side1 => exact zq10 HR0_3.out HB.out); (case side2 => exact HC0_3.out); rintro e w14 ⟨v138, rfl, ho0, hb⟩; refine ⟨_, rfl, ?_⟩; have HO139 := Aside0.mk (Kd.R_lower (Kd.R_new' ho0 (Kd.R_lt (zq3 HO135.out))) (below_size (zq2 HB.out GE132.out))); replace HO135 := Aside0.mk (Kd.R_elder' (zq3 HO135.out) (Kd.R_base ho0) hb); replace BK132 := Aside0.mk (zB BK132.out hb); replace HB := Aside0.mk (below_step (zq2 HB.out GE132.out) hb); (try clear hb); (try clear hb2); (try clear hk); (try clear hi); (try clear ho0)))); (go_loopg [8, 9, 10] k (fun kq v8 v9 v10 w' => ∃ (x8_1 : List Int) (x9_1 : Int) (x10_1 : Int), v9 = .int .i64 x9_1 ∧ v10 = .int .i64 x10_1 ∧ Aside0 (impl_firstAll.l0 kq x8_1 x9_1 x10_1 a0_0 a0_1 a0_2 l0_3 = some (r1, r2)) ∧ Aside0 (kq ≤ k) ∧ Aside0 (Kd.R (Kd.int .i64) 3 w' w.heap.size (fun _ => True) v8 x8_1) ∧ Aside0 (w'.heap[gb132]? = some (.cells #[.int .i64 a0_0, .int .i64 a0_1, .int .i64 a0_2, (.slice A0_3 l0_3.length c0_3)] 31 (0, 0))) ∧ Aside0 (Below w.heap.size w w')))
    case atStart => exact ⟨(t137), (1), (0), zq25, zq25, H', ⟨Nat.le_refl _⟩, ⟨zq50 HO139.out⟩, ⟨zq1 BK132.out⟩, ⟨zq2 HB.out GE132.out⟩⟩
    case round =>
      (clear H'); (try clear c1); (try clear c2); (try clear p2); (try clear c5); (try clear hcz13_0 hcz13_1 hcz13_2 hcz13_3); (try clear hcz8_0 hcz8_1 hcz8_2 hcz8_3); (try clear hfz13_0 hfz13_1 hfz13_2 hfz13_3); (try clear hfz8_0 hfz8_1 hfz8_2 hfz8_3); (obtain ⟨x8_1, x9_1, x10_1, rfl, rfl, HA, HK1, HO_8, BK132, HB⟩ := hrel)
      cases gk with
      | zero => exact absurd HA.out (by simp [impl_firstAll.l0])
      | succ k1 =>
        (have H := HA.out); (clear HA); (simp only [impl_firstAll.l0] at H); (by_cases c15 : x10_1 ≤ 20)
        · rw [if_pos c15] at H
          (have c15b0 : decide (x10_1 ≤ 20) = true := decide_eq_true c15); (clear c15); (by_cases c16 : 0 ≤ a0_0)
          · rw [if_pos c16] at H
            (have c16b0 : decide (0 ≤ a0_0) = true := decide_eq_true c16); (clear c16); (by_cases c17 : a0_0 < (x8_1.length : Int))
            · rw [if_pos c17] at H
              (have c17b0 : decide (a0_0 < (x8_1.length : Int)) = true := decide_eq_true c17); (clear c17); (replace H := Option.bind_eq_some_iff.mp H); (obtain ⟨t141, A180, H⟩ := H); (replace H : (if t141 = true then (some (x10_1, true)) else (if x10_1 < 20 then ((impl_Board_next.f k1 a0_0 a0_1 a0_2 l0_3 x8_1).bind fun t142 => (impl_firstAll.l0 k1 t142 (wrap64 (x9_1 * a0_1)) (wrap64 (x10_1 + 1)) a0_0 a0_1 a0_2 l0_3)) else (impl_firstAll.l0 k1 x8_1 x9_1 (wrap64 (x10_1 + 1)) a0_0 a0_1 a0_2 l0_3))) = some (r1, r2) := H); (have A18 := Aside0.mk A180); (clear A180); (by_cases c19 : t141 = true)
              · subst c19
                (have H1 : (some (x10_1, true)) = some (r1, r2) := by rw [if_pos rfl] at H; exact H); (clear H); (have H := H1); (clear H1); (simp only [Option.some.injEq, Prod.mk.injEq] at H); (obtain ⟨rfl, rfl⟩ := H); (obtain ⟨hcz20_0, hcz20_1, hcz20_2, hcz20_3, hfz20_0, hfz20_1, hfz20_2, hfz20_3⟩ := bk4_ BK132.out); (obtain ⟨Ao21, co21, eo21⟩ := Kd.R_slice HO_8.out); (subst eo21); (have p140 : 0 ≤ (a0_0 : Int) := of_decide_eq_true zq17); (have q140 : a0_0 < (x8_1.length : Int) := of_decide_eq_true zq17); (obtain ⟨ad140, e140, hx140_0⟩ := Kd.at_int (Kd.R_reads' HO_8.out).2.2 a0_0 p140 q140); (cases e140); (replace p140 := eq_true p140); (replace q140 := eq_true q140); (go_wp2_with (first | (go_at_call 233; (with_reducible refine (impl_AllDone_lit.calls (rd x8_1 a0_0) x9_1 true _ A18.out).mono ?_); rintro e w' ⟨rfl, ⟨nd, rfl⟩⟩))); (go_ret2); (exact ⟨zq16, zq2 HB.out GE132.out⟩)
              · replace c19 := Bool.eq_false_iff.mpr c19
                (subst c19); (have H1 : (if x10_1 < 20 then ((impl_Board_next.f k1 a0_0 a0_1 a0_2 l0_3 x8_1).bind fun t142 => (impl_firstAll.l0 k1 t142 (wrap64 (x9_1 * a0_1)) (wrap64 (x10_1 + 1)) a0_0 a0_1 a0_2 l0_3)) else (impl_firstAll.l0 k1 x8_1 x9_1 (wrap64 (x10_1 + 1)) a0_0 a0_1 a0_2 l0_3)) = some (r1, r2) := by rw [if_neg (show ¬ (false = true) by decide)] at H; exact H); (clear H); (have H := H1); (clear H1); (by_cases c22 : x10_1 < 20)
                · rw [if_pos c22] at H
                  (have c22b0 : decide (x10_1 < 20) = true := decide_eq_true c22); (clear c22); (replace H := Option.bind_eq_some_iff.mp H); (obtain ⟨t142, A230, H⟩ := H); (replace H : (impl_firstAll.l0 k1 t142 (wrap64 (x9_1 * a0_1)) (wrap64 (x10_1 + 1)) a0_0 a0_1 a0_2 l0_3) = some (r1, r2) := H); (have A23 := Aside0.mk A230); (clear A230); (have H' := Aside0.mk H); (clear H); (obtain ⟨hcz24_0, hcz24_1, hcz24_2, hcz24_3, hfz24_0, hfz24_1, hfz24_2, hfz24_3⟩ := bk4_ BK132.out); (obtain ⟨Ao25, co25, eo25⟩ := Kd.R_slice HO_8.out); (subst eo25); (have p140 : 0 ≤ (a0_0 : Int) := of_decide_eq_true zq17); (have q140 : a0_0 < (x8_1.length : Int) := of_decide_eq_true zq17); (obtain ⟨ad140, e140, hx140_0⟩ := Kd.at_int (Kd.R_reads' HO_8.out).2.2 a0_0 p140 q140); (cases e140); (replace p140 := eq_true p140); (replace q140 := eq_true q140); (try go_wp2_with (first | (go_at_call 233; (with_reducible refine (impl_AllDone_lit.calls (rd x8_1 a0_0) x9_1 false _ A18.out).mono ?_); rintro e w' ⟨rfl, ⟨nd, rfl⟩⟩))); ((try (rw [drewN_self wr]; generalize hq_ : World.drewN wr _ = wr; have n0_ : Aside0 (Kd.R (Kd.int .i64) 3 wr w.heap.size (fun _ => True) (.slice (some ad140) x8_1.length co25) x8_1) := ⟨by rw [← hq_]; exact (by (with_reducible repeat (first | apply Kd.R_alloc | apply Kd.R_drewN | apply Kd.R_drew)); exact HO_8.out)⟩; have n1_ : Aside0 (wr.heap[gb132]? = some (.cells #[.int .i64 a0_0, .int .i64 a0_1, .int .i64 a0_2, .slice A0_3 l0_3.length c0_3] 31 (0, 0))) := ⟨by rw [← hq_]; exact (by (with_reducible repeat (first | refine blk_drewN ?_ _ | refine blk_drew ?_ | refine blk_alloc ?_ _)); exact BK132.out)⟩; have n2_ : Aside0 (Below w.heap.size w wr) := ⟨zq96 HB.out GE132.out⟩; clear HO_8 BK132 HB hq_; have HO_8 := n0_; have BK132 := n1_; have HB := n2_; clear n0_ n1_ n2_))); (have n0_ := Aside0.mk (Kd.R_drew HO_8.out)); (have n1_ := Aside0.mk (blk_drew BK132.out)); (have n2_ := Aside0.mk (below_drew1 HB.out)); (clear HO_8); (clear BK132); (clear HB); (have HO_8 := n0_); (have BK132 := n1_); (have HB := n2_); (clear n0_ n1_ n2_); (refine start_ (n := 9) (S := fun w' => w'.cell? ⟨gb132, 0, none⟩ = some (.int .i64 a0_0) ∧ w'.cell? ⟨gb132, 1, none⟩ = some (.int .i64 a0_1) ∧ w'.cell? ⟨gb132, 2, none⟩ = some (.int .i64 a0_2) ∧ w'.cell? ⟨gb132, 3, none⟩ = some (.slice A0_3 l0_3.length c0_3)) (ds := []) #[false, false, false, false, false, false, false, false, false] (by kernel_rfl) rfl rfl ⟨(blk_cell BK132.out 0).trans rfl, (blk_cell BK132.out 1).trans rfl, (blk_cell BK132.out 2).trans rfl, (blk_cell BK132.out 3).trans rfl⟩ (fun hHeld => ?_); refine with_tabW impl_firstAll.tab10 impl_firstAll.bits10 (fun HT_ HW_ => ?_)); (generalize wr.drew = w26 at HO_8 BK132 HB hHeld ⊢); (refine pure_ (i := 1) (N := some 35) (v := ?_) (a' := ?_) #[false, true, false, false, false, false, false, false, false] rfl rfl (any_of HT_.out (by kernel_rfl)) (fun _ _ _ h => h) (Or.inl ⟨by rfl, ?_⟩) ?_ ?_); (rotate_left)
                  · intro w'
                    (go_simp); (with_reducible rfl)
                  rotate_left
                  · simp only [Act.put, List.setIfInBounds_toArray, List.set_cons_zero, List.set_cons_succ, i64_w, i32_w]
                    rfl
                  (refine pure_ (i := 3) (N := some 37) (v := ?_) (a' := ?_) #[false, true, false, true, false, false, false, false, false] rfl rfl (any_of HT_.out (by kernel_rfl)) (fun _ _ _ h => h) (Or.inl ⟨by rfl, ?_⟩) ?_ ?_); (rotate_left)
                  · intro w'
                    (go_simp); (with_reducible rfl)
                  rotate_left
                  · simp only [Act.put, List.setIfInBounds_toArray, List.set_cons_zero, List.set_cons_succ, i64_w, i32_w]
                    rfl
                  (refine pure_ (i := 4) (N := some 38) (v := ?_) (a' := ?_) #[false, true, false, true, true, false, false, false, false] rfl rfl (any_of HT_.out (by kernel_rfl)) (fun _ _ _ h => h) (Or.inl ⟨by rfl, ?_⟩) ?_ ?_); (rotate_left)
                  · intro w'
                    (go_simp); (with_reducible rfl)
                  rotate_left
                  · simp only [Act.put, List.setIfInBounds_toArray, List.set_cons_zero, List.set_cons_succ, i64_w, i32_w]
                    rfl
                  (refine take_ (i := 0) (N := some 34) (v := ?_) (a' := ?_) #[true, true, false, true, true, false, false, false, false] rfl rfl (take_ofW HT_.out HW_.out (by kernel_rfl)) (fun _ _ _ h => h) (Or.inl ⟨by rfl, ?_⟩) hHeld ?_ ?_); (rotate_left)
                  · rintro w' ⟨s0, s1, s2, s3⟩
                    (go_simp); (with_reducible rfl)
                  rotate_left
                  · simp only [Act.put, List.setIfInBounds_toArray, List.set_cons_zero, List.set_cons_succ, i64_w, i32_w]
                    rfl
                  (refine take_ (i := 5) (N := some 39) (v := ?_) (a' := ?_) #[true, true, false, true, true, true, false, false, false] rfl rfl (take_ofW HT_.out HW_.out (by kernel_rfl)) (fun _ _ _ h => h) (Or.inl ⟨by rfl, ?_⟩) hHeld ?_ ?_); (rotate_left)
                  · rintro w' ⟨s0, s1, s2, s3⟩
                    (go_simp); (with_reducible rfl)
                  rotate_left
                  · simp only [Act.put, List.setIfInBounds_toArray, List.set_cons_zero, List.set_cons_succ, i64_w, i32_w]
                    rfl
                  (refine pure_ (i := 6) (N := some 40) (v := ?_) (a' := ?_) #[true, true, false, true, true, true, true, false, false] rfl rfl (any_of HT_.out (by kernel_rfl)) (fun _ _ _ h => h) (Or.inl ⟨by rfl, ?_⟩) ?_ ?_); (rotate_left)
                  · intro w'
                    (go_simp); (with_reducible rfl)
                  rotate_left
                  · simp only [Act.put, List.setIfInBounds_toArray, List.set_cons_zero, List.set_cons_succ, i64_w, i32_w]
                    rfl
                  (refine one_ (i := 2) (N := some 36) #[true, true, true, true, true, true, true, false, false] rfl rfl (one_of HT_.out (by kernel_rfl)) (by decide) (fun K hK => ?_)); (refine goes_ Try.func175 (by kernel_rfl) rfl #[.agg #[.int .i64 a0_0, .int .i64 a0_1, .int .i64 a0_2, .slice A0_3 l0_3.length c0_3], .slice (some ad140) x8_1.length co25] (by rfl) rfl rfl zq6 ?_); (with_reducible refine (impl_Board_next.calls k1 a0_0 a0_1 a0_2 _ _ l0_3 _ _ x8_1 t142 _ ?side1 ?side2 ?side3 ?side4 A23.out).mono ?_); ((case side1 => exact zq10 HR0_3.out HB.out)); ((case side2 => exact HC0_3.out)); ((case side3 => exact zq12 HO_8.out)); ((case side4 => exact (Kd.R_reads' HO_8.out).2.1)); (rintro e w27 ⟨v143, rfl, ho0, hb⟩); (refine ⟨_, rfl, ?_⟩); (have n0_ := Aside0.mk (Kd.R_elder' (zq3 HO_8.out) (Kd.R_base ho0) hb)); (have n1_ := Aside0.mk (Kd.R_lower (Kd.R_new' ho0 (Kd.R_lt (zq3 HO_8.out))) (below_size (zq2 HB.out GE132.out)))); (have n2_ := Aside0.mk (zB BK132.out hb)); (have n3_ := Aside0.mk (below_step (zq2 HB.out GE132.out) hb)); (clear HO_8); (clear BK132); (clear HB); (have HO_8 := n0_); (have HO144 := n1_); (have BK132 := n2_); (have HB := n3_); (clear n0_ n1_ n2_ n3_); ((try clear hb)); ((try clear hb2)); ((try clear hk)); ((try clear hi)); ((try clear ho0)); (refine hK.out _ _ ⟨(blk_cell BK132.out 0).trans rfl, (blk_cell BK132.out 1).trans rfl, (blk_cell BK132.out 2).trans rfl, (blk_cell BK132.out 3).trans rfl⟩ (fun hHeld => ?_)); (clear hK K); (refine norm_ (a' := ?_) ?_ ?_); (rotate_left)
                  · show Act.put _ (some 36) _ = _
                    (simp only [Act.put, List.setIfInBounds_toArray, List.set_cons_zero, List.set_cons_succ, i64_w, i32_w]); (rfl)
                  (refine pure_ (i := 7) (N := some 8) (v := ?_) (a' := ?_) #[true, true, true, true, true, true, true, true, false] rfl rfl (any_of HT_.out (by kernel_rfl)) (fun _ _ _ h => h) (Or.inl ⟨by rfl, ?_⟩) ?_ ?_); (rotate_left)
                  · intro w'
                    (go_simp); (with_reducible rfl)
                  rotate_left
                  · simp only [Act.put, List.setIfInBounds_toArray, List.set_cons_zero, List.set_cons_succ, i64_w, i32_w]
                    rfl
                  (refine pure_ (i := 8) (N := some 9) (v := ?_) (a' := ?_) #[true, true, true, true, true, true, true, true, true] rfl rfl (any_of HT_.out (by kernel_rfl)) (fun _ _ _ h => h) (Or.inl ⟨by rfl, ?_⟩) ?_ ?_); (rotate_left)
                  · intro w'
                    (go_simp); (with_reducible rfl)
                  rotate_left
                  · simp only [Act.put, List.setIfInBounds_toArray, List.set_cons_zero, List.set_cons_succ, i64_w, i32_w]
                    rfl
                  (refine done_ (done_of HT_.out (by kernel_rfl)) ?_); (try go_wp2); (go_roundg k1)
                  case measure => have := HK1.out; omega
                  case rel => exact ⟨(t142), (wrap64 (x9_1 * a0_1)), (wrap64 (x10_1 + 1)), zq25, zq25, H', ⟨by have := HK1.out; omega⟩, ⟨zq50 HO144.out⟩, ⟨zq1 BK132.out⟩, ⟨zq2 HB.out GE132.out⟩⟩
                · rw [if_neg c22] at H
                  (have c22b0 : decide (x10_1 < 20) = false := decide_eq_false c22); (clear c22); (have H' := Aside0.mk H); (clear H); (obtain ⟨hcz28_0, hcz28_1, hcz28_2, hcz28_3, hfz28_0, hfz28_1, hfz28_2, hfz28_3⟩ := bk4_ BK132.out); (obtain ⟨Ao29, co29, eo29⟩ := Kd.R_slice HO_8.out); (subst eo29); (have p140 : 0 ≤ (a0_0 : Int) := of_decide_eq_true zq17); (have q140 : a0_0 < (x8_1.length : Int) := of_decide_eq_true zq17); (obtain ⟨ad140, e140, hx140_0⟩ := Kd.at_int (Kd.R_reads' HO_8.out).2.2 a0_0 p140 q140); (cases e140); (replace p140 := eq_true p140); (replace q140 := eq_true q140); (go_wp2_with (first | (go_at_call 233; (with_reducible refine (impl_AllDone_lit.calls (rd x8_1 a0_0) x9_1 false _ A18.out).mono ?_); rintro e w' ⟨rfl, ⟨nd, rfl⟩⟩))); (go_roundg k1)
                  case measure => have := HK1.out; omega
                  case rel => exact ⟨(x8_1), (x9_1), (wrap64 (x10_1 + 1)), zq25, zq25, H', ⟨by have := HK1.out; omega⟩, ⟨zq3 HO_8.out⟩, ⟨zq1 BK132.out⟩, ⟨zq2 HB.out GE132.out⟩⟩
            · rw [if_neg c17] at H
              exact absurd H (by simp)
          · rw [if_neg c16] at H
            exact absurd H (by simp)
        · rw [if_neg c15] at H
          (have c15b0 : decide (x10_1 ≤ 20) = false := decide_eq_false c15); (clear c15); (simp only [Option.some.injEq, Prod.mk.injEq] at H); (obtain ⟨rfl, rfl⟩ := H); (go_wp2); (go_ret2); (exact ⟨zq16, zq2 HB.out GE132.out⟩)
  · replace c5 := Bool.eq_false_iff.mpr c5
    (subst c5); (have H1 : (some (0, false)) = some (r1, r2) := by rw [if_neg (show ¬ (false = true) by decide)] at H; exact H); (clear H); (have H := H1); (clear H1); (simp only [Option.some.injEq, Prod.mk.injEq] at H); (obtain ⟨rfl, rfl⟩ := H); (go_enter Try.func229, Try.ntmps229); (go_wp2_with (first | ((with_reducible refine gate_dst (N := 3) rfl ?_); refine box_event ?hg (N := 3) ?hd (cs := #[.int .i64 a0_0, .int .i64 a0_1, .int .i64 a0_2, .slice A0_3 l0_3.length c0_3]) (t := 31) ?hr ?_; (case hd => rfl); (case hg => rfl); (case hr => exact zq19); intro gb132 hg w30 hbox hb; have BK132 := Aside0.mk (hbox); have GW132 := Aside0.mk ((zq8 HB.out : w.heap.size ≤ gb132)); have GE132 := Aside0.mk ((zq8 HB.out : w.heap.size ≤ gb132)); replace HB := Aside0.mk (below_step (zq15 HB.out) hb); clear hb hbox hg; obtain ⟨hcz31_0, hcz31_1, hcz31_2, hcz31_3, hfz31_0, hfz31_1, hfz31_2, hfz31_3⟩ := bk4_ BK132.out) | ((with_reducible refine gate_dst (N := 13) rfl ?_); refine Kd.R_lit (Kd.int .i64) _ 3 ?hg (N := 13) ?hd (xs := ([a1] : List Int)) (inner := [.int .i64 a1]) (ok := fun _ => True) (okp := fun _ => True) ?hr ?hp (fun _ hk => hk) trivial (Below.refl _ _) (Nat.le_refl _) (by simp) ?_; (case hd => rfl); (case hg => rfl); (case hr => exact zq19); (case hp => exact (Reps.one (show Kd.M (Kd.int .i64) _ _ _ a1 [.int .i64 a1] from rfl) (Reps.none _ _))); intro v134 w32 ho33 hb hg_ hnew_; clear hg_ hnew_; (first | rw [← Ny133.out] at ho33 | (simp only [Int.reduceToNat] at ho33; rw [← Ny133.out] at ho33)); have HO135 := Aside0.mk (Kd.R_lower ho33 (below_size (zq2 HB.out GE132.out))); replace BK132 := Aside0.mk (zB BK132.out hb); replace HB := Aside0.mk (below_step (zq2 HB.out GE132.out) hb); clear hb ho33; obtain ⟨Ao34, co34, eo34⟩ := Kd.R_slice HO135.out; subst eo34) | ((with_reducible refine gate_callee (f := 191) rfl ?_); refine goesL_ (some 14) rfl rfl Try.func191 (by kernel_rfl) rfl #[.agg #[.int .i64 a0_0, .int .i64 a0_1, .int .i64 a0_2, .slice A0_3 l0_3.length c0_3], .slice Ao34 y133.length co34] rfl zq6 ?_; (with_reducible refine (impl_areSquares.calls a0_0 a0_1 a0_2 _ _ l0_3 _ _ y133 false _ ?side1 ?side2 ?side3 ?side4 A4.out).mono ?_); (case side1 => exact zq10 HR0_3.out HB.out); (case side2 => exact HC0_3.out); (case side3 => exact zq12 HO135.out); (case side4 => exact (Kd.R_reads' HO135.out).2.1); rintro e w35 ⟨rfl, hb⟩; refine ⟨_, rfl, ?_⟩; replace HO135 := Aside0.mk (Kd.R_below (zq3 HO135.out) hb); replace BK132 := Aside0.mk (zB BK132.out hb); replace HB := Aside0.mk (below_step (zq2 HB.out GE132.out) hb); (try clear hb); (try clear hb2); (try clear hk); (try clear hi)))); (go_ret2); (exact ⟨zq16, zq2 HB.out GE132.out⟩)
def isAllV (v : Value) : Bool := match v with | .func (.func n) fi ca => n == 233 && fi.size == 0 && ca.size == 0 | _ => false
theorem isAllV_eq {v : Value} (h : isAllV v = true) : v = (.func (.func 233) #[] #[]) := by
  (unfold isAllV at h); (split at h)
  · simp only [Bool.and_eq_true, beq_iff_eq] at h
    (obtain ⟨⟨rfl, h1⟩, h2⟩ := h); (rw [Array.eq_empty_of_size_eq_zero h1, Array.eq_empty_of_size_eq_zero h2])
  · exact absurd h (by simp)
def impl_firstDone.f (k : Nat) (a0_0 : Int) (a0_1 : Int) (a0_2 : Int) (l0_3 : List (S126)) (a1 : Int) (v : Value) : Option (Int × Bool) :=
  if isHalfV v then impl_firstHalf.f k a0_0 a0_1 a0_2 l0_3 a1 else if isAllV v then impl_firstAll.f k a0_0 a0_1 a0_2 l0_3 a1 else none
theorem impl_firstDone.mono : ∀ a0 a1 a2 a3 a4 a5 k, LeO (impl_firstDone.f k a0 a1 a2 a3 a4 a5) (impl_firstDone.f (k + 1) a0 a1 a2 a3 a4 a5) := by
  (intro a0 a1 a2 a3 a4 a5 k); (unfold impl_firstDone.f); (split)
  · exact impl_firstHalf.mono _ _ _ _ _ _
  · split
    · exact impl_firstAll.mono _ _ _ _ _ _
    · exact LeO.refl _
theorem impl_firstDone.calls (k : Nat) (a0_0 : Int) (a0_1 : Int) (a0_2 : Int) (A0_3 : Option Addr) (c0_3 : Nat) (l0_3 : List (S126)) (a1 : Int) (v : Value) (r1 : Int) (r2 : Bool) (w : World) (hr0_3 : Kd.C k126 w A0_3 l0_3.length l0_3) (hc0_3 : l0_3.length ≤ c0_3) (h : impl_firstDone.f k a0_0 a0_1 a0_2 l0_3 a1 v = some (r1, r2)) :
    Calls Try.prog 229 #[.agg #[.int .i64 a0_0, .int .i64 a0_1, .int .i64 a0_2, .slice A0_3 l0_3.length c0_3], .int .i64 a1, v] w fun e w' => e = .returned (.tuple #[.int .i64 r1, .bool r2]) ∧ Below w.heap.size w w' := by
  (unfold impl_firstDone.f at h); (split at h)
  · next hv =>
    (obtain rfl := isHalfV_eq hv); (exact impl_firstHalf.calls k a0_0 a0_1 a0_2 A0_3 c0_3 l0_3 a1 r1 r2 w hr0_3 hc0_3 h)
  · split at h
    · next hv =>
      (obtain rfl := isAllV_eq hv); (exact impl_firstAll.calls k a0_0 a0_1 a0_2 A0_3 c0_3 l0_3 a1 r1 r2 w hr0_3 hc0_3 h)
    · simp at h
end

section
def impl_HalfDone.f (k : Nat) (a0_0 : Int) (a0_1 : Int) (a0_2 : Int) (l0_3 : List (S126)) (a1 : Int) : Option (Int × Bool) := (impl_firstDone.f k a0_0 a0_1 a0_2 l0_3 a1 (.func (.func 230) #[] #[] : Value)).bind fun bt1451 => (some (bt1451.1, bt1451.2))
theorem impl_HalfDone.mono : ∀ a0 a1 a2 a3 a4 k, LeO (impl_HalfDone.f k a0 a1 a2 a3 a4) (impl_HalfDone.f (k + 1) a0 a1 a2 a3 a4) := by
  (intro a0 a1 a2 a3 a4 k); (unfold impl_HalfDone.f); (exact zq80)
set_option maxHeartbeats 8000000 in
set_option maxRecDepth 100000 in
theorem impl_HalfDone.calls (k : Nat) (a0_0 : Int) (a0_1 : Int) (a0_2 : Int) (A0_3 : Option Addr) (c0_3 : Nat) (l0_3 : List (S126)) (a1 : Int) (r1 : Int) (r2 : Bool) (w : World) (hr0_3 : Kd.C k126 w A0_3 l0_3.length l0_3) (hc0_3 : l0_3.length ≤ c0_3) (h : impl_HalfDone.f k a0_0 a0_1 a0_2 l0_3 a1 = some (r1, r2)) :
    Calls Try.prog 93 #[.agg #[.int .i64 a0_0, .int .i64 a0_1, .int .i64 a0_2, .slice A0_3 l0_3.length c0_3], .int .i64 a1] w fun e w' => e = .returned (.tuple #[.int .i64 r1, .bool r2]) ∧ Below w.heap.size w w' := by
  (have hu31 := Try.underlying31); (have HR0_3 := Aside0.mk hr0_3); (have HC0_3 := Aside0.mk hc0_3); (clear hr0_3 hc0_3); (have HB := Aside0.mk (Below.refl w.heap.size w)); (have H : ((impl_firstDone.f k a0_0 a0_1 a0_2 l0_3 a1 (.func (.func 230) #[] #[] : Value)).bind fun bt1451 => (some (bt1451.1, bt1451.2))) = some (r1, r2) := h); (clear h); (replace H := Option.bind_eq_some_iff.mp H); (obtain ⟨⟨t1451, t1452⟩, A30, H⟩ := H); (replace H : (some (t1451, t1452)) = some (r1, r2) := H); (have A3 := Aside0.mk A30); (clear A30); (simp only [Option.some.injEq, Prod.mk.injEq] at H); (obtain ⟨rfl, rfl⟩ := H); (go_enter Try.func93, Try.ntmps93); (go_wp2_with (first | ((with_reducible refine gate_dst (N := 2) rfl ?_); refine box_event ?hg (N := 2) ?hd (cs := #[.int .i64 a0_0, .int .i64 a0_1, .int .i64 a0_2, .slice A0_3 l0_3.length c0_3]) (t := 31) ?hr ?_; (case hd => rfl); (case hg => rfl); (case hr => exact zq19); intro gb1450 hg w4 hbox hb; have BK1450 := Aside0.mk (hbox); have GW1450 := Aside0.mk ((zq8 HB.out : w.heap.size ≤ gb1450)); have GE1450 := Aside0.mk ((zq8 HB.out : w.heap.size ≤ gb1450)); replace HB := Aside0.mk (below_step (zq15 HB.out) hb); clear hb hbox hg; obtain ⟨hcz5_0, hcz5_1, hcz5_2, hcz5_3, hfz5_0, hfz5_1, hfz5_2, hfz5_3⟩ := bk4_ BK1450.out) | ((with_reducible refine gate_callee (f := 229) rfl ?_); refine goesL_ (some 8) rfl rfl Try.func229 (by kernel_rfl) rfl #[.agg #[.int .i64 a0_0, .int .i64 a0_1, .int .i64 a0_2, .slice A0_3 l0_3.length c0_3], .int .i64 a1, (.func (.func 230) #[] #[] : Value)] rfl zq6 ?_; (with_reducible refine (impl_firstDone.calls k a0_0 a0_1 a0_2 _ _ l0_3 a1 (.func (.func 230) #[] #[] : Value) t1451 t1452 _ ?side1 ?side2 A3.out).mono ?_); (case side1 => exact zq10 HR0_3.out HB.out); (case side2 => exact HC0_3.out); rintro e w6 ⟨rfl, hb⟩; refine ⟨_, rfl, ?_⟩; replace BK1450 := Aside0.mk (zB BK1450.out hb); replace HB := Aside0.mk (below_step (zq2 HB.out GE1450.out) hb); (try clear hb); (try clear hb2); (try clear hk); (try clear hi)))); (go_ret2); (exact ⟨zq16, zq2 HB.out GE1450.out⟩)
end

section
def spec_chUntil.l0 : Nat → Int → Int → Int → Int → Int → Int → List (S126) → Option (Int × Bool)
  | 0, _, _, _, _, _, _, _ => none
  | k + 1, x1, x2, x8, x1454000, x1454001, x1454002, x1454003 => if x8 ≤ 20 then ((spec_chAll.f k x1454000 x1454001 x1454002 x1454003 x8).bind fun t1454 => ((spec_chPlaces.f k x1454000 x1454001 x1454002 x1454003 x1 x8).bind fun t1455 => (if 0 ≤ x1454000 then (if x1454000 < (t1455.length : Int) then ((spec_chAll.f k x1454000 x1454001 x1454002 x1454003 x8).bind fun t1459 => (if x2 = 0 then (none) else (if (wrap64 (t1454 - (rd t1455 x1454000))) ≤ (wrap64 (Int.tdiv t1459 x2)) then (if x2 > 1 then (some (x8, true)) else (if (wrap64 (t1454 - (rd t1455 x1454000))) = 0 then (some (x8, true)) else (spec_chUntil.l0 k x1 x2 (wrap64 (x8 + 1)) x1454000 x1454001 x1454002 x1454003))) else (if (wrap64 (t1454 - (rd t1455 x1454000))) = 0 then (some (x8, true)) else (spec_chUntil.l0 k x1 x2 (wrap64 (x8 + 1)) x1454000 x1454001 x1454002 x1454003))))) else (none)) else (none)))) else (some (0, false))
def spec_chUntil.f (k : Nat) (a0_0 : Int) (a0_1 : Int) (a0_2 : Int) (l0_3 : List (S126)) (a1 : Int) (a2 : Int) : Option (Int × Bool) := spec_chUntil.l0 k a1 a2 0 a0_0 a0_1 a0_2 l0_3
theorem spec_chUntil.mono_l : ∀ k, (∀ y0 y1 y2 y3 y4 y5 y6, LeO (spec_chUntil.l0 k y0 y1 y2 y3 y4 y5 y6) (spec_chUntil.l0 (k + 1) y0 y1 y2 y3 y4 y5 y6))
  | 0 => fun _ _ _ _ _ _ _ r h => by simp [spec_chUntil.l0] at h
  | k + 1 => by
    have ih0 := spec_chUntil.mono_l k
    · intro y0 y1 y2 y3 y4 y5 y6
      (unfold spec_chUntil.l0); (exact zq59)
theorem spec_chUntil.mono : ∀ a0 a1 a2 a3 a4 a5 k, LeO (spec_chUntil.f k a0 a1 a2 a3 a4 a5) (spec_chUntil.f (k + 1) a0 a1 a2 a3 a4 a5) := by
  (intro a0 a1 a2 a3 a4 a5 k); (have ih0 := spec_chUntil.mono_l k); (unfold spec_chUntil.f); (exact zq59)
def spec_chUntil.T4 : Bool × List (List Nat × List Nat) := (true, [([], []), ([], []), ([0, 1], [0, 1]), ([], []), ([], []), ([], []), ([3, 4, 5, 2], [3, 4, 5]), ([], []), ([7], [7]), ([6, 8], [6, 8]), ([9], [9]), ([2, 10], [2, 10]), ([11, 6, 0, 1, 2, 3, 4, 5, 6, 7, 8, 9, 10, 11], [11])])
def spec_chUntil.B4 : List Nat := [0, 0, 3, 0, 0, 0, 63, 0, 128, 511, 1023, 2047, 4095]
theorem spec_chUntil.tab4 : rtab .any (opsOf Try.f232 4) = spec_chUntil.T4 := by kernel_rfl
theorem spec_chUntil.bits4 : waitsOk spec_chUntil.T4.2 spec_chUntil.B4 = true := by kernel_rfl
set_option maxHeartbeats 8000000 in
set_option maxRecDepth 100000 in
theorem spec_chUntil.calls (k : Nat) (a0_0 : Int) (a0_1 : Int) (a0_2 : Int) (A0_3 : Option Addr) (c0_3 : Nat) (l0_3 : List (S126)) (a1 : Int) (a2 : Int) (r1 : Int) (r2 : Bool) (w : World) (hr0_3 : Kd.C k126 w A0_3 l0_3.length l0_3) (hc0_3 : l0_3.length ≤ c0_3) (h : spec_chUntil.f k a0_0 a0_1 a0_2 l0_3 a1 a2 = some (r1, r2)) :
    Calls Try.prog 232 #[.agg #[.int .i64 a0_0, .int .i64 a0_1, .int .i64 a0_2, .slice A0_3 l0_3.length c0_3], .int .i64 a1, .int .i64 a2] w fun e w' => e = .returned (.tuple #[.int .i64 r1, .bool r2]) ∧ Below w.heap.size w w' := by
  (have hu31 := Try.underlying31); (have HR0_3 := Aside0.mk hr0_3); (have HC0_3 := Aside0.mk hc0_3); (clear hr0_3 hc0_3); (have HB := Aside0.mk (Below.refl w.heap.size w)); (have H : (spec_chUntil.l0 k a1 a2 0 a0_0 a0_1 a0_2 l0_3) = some (r1, r2) := h); (clear h); (have H' := Aside0.mk H); (clear H); (go_enter Try.func232, Try.ntmps232); (go_wp2_with (first | ((with_reducible refine gate_dst (N := 3) rfl ?_); refine box_event ?hg (N := 3) ?hd (cs := #[.int .i64 a0_0, .int .i64 a0_1, .int .i64 a0_2, .slice A0_3 l0_3.length c0_3]) (t := 31) ?hr ?_; (case hd => rfl); (case hg => rfl); (case hr => exact zq19); intro gb1453 hg w4 hbox hb; have BK1453 := Aside0.mk (hbox); have GW1453 := Aside0.mk ((zq8 HB.out : w.heap.size ≤ gb1453)); have GE1453 := Aside0.mk ((zq8 HB.out : w.heap.size ≤ gb1453)); replace HB := Aside0.mk (below_step (zq15 HB.out) hb); clear hb hbox hg))); (go_loopg [8] k (fun kq v8 w' => ∃ (x8_1 : Int), v8 = .int .i64 x8_1 ∧ Aside0 (spec_chUntil.l0 kq a1 a2 x8_1 a0_0 a0_1 a0_2 l0_3 = some (r1, r2)) ∧ Aside0 (kq ≤ k) ∧ Aside0 (w'.heap[gb1453]? = some (.cells #[.int .i64 a0_0, .int .i64 a0_1, .int .i64 a0_2, (.slice A0_3 l0_3.length c0_3)] 31 (0, 0))) ∧ Aside0 (Below w.heap.size w w')))
  case atStart => exact ⟨(0), zq25, H', ⟨Nat.le_refl _⟩, ⟨zq1 BK1453.out⟩, ⟨zq2 HB.out GE1453.out⟩⟩
  case round =>
    (clear H'); (try clear c2); (try clear p2); (obtain ⟨x8_1, rfl, HA, HK1, BK1453, HB⟩ := hrel)
    cases gk with
    | zero => exact absurd HA.out (by simp [spec_chUntil.l0])
    | succ k1 =>
      (have H := HA.out); (clear HA); (simp only [spec_chUntil.l0] at H); (by_cases c5 : x8_1 ≤ 20)
      · rw [if_pos c5] at H
        (have c5b0 : decide (x8_1 ≤ 20) = true := decide_eq_true c5); (clear c5); (replace H := Option.bind_eq_some_iff.mp H); (obtain ⟨t1454, A60, H⟩ := H); (replace H : ((spec_chPlaces.f k1 a0_0 a0_1 a0_2 l0_3 a1 x8_1).bind fun t1455 => (if 0 ≤ a0_0 then (if a0_0 < (t1455.length : Int) then ((spec_chAll.f k1 a0_0 a0_1 a0_2 l0_3 x8_1).bind fun t1459 => (if a2 = 0 then (none) else (if (wrap64 (t1454 - (rd t1455 a0_0))) ≤ (wrap64 (Int.tdiv t1459 a2)) then (if a2 > 1 then (some (x8_1, true)) else (if (wrap64 (t1454 - (rd t1455 a0_0))) = 0 then (some (x8_1, true)) else (spec_chUntil.l0 k1 a1 a2 (wrap64 (x8_1 + 1)) a0_0 a0_1 a0_2 l0_3))) else (if (wrap64 (t1454 - (rd t1455 a0_0))) = 0 then (some (x8_1, true)) else (spec_chUntil.l0 k1 a1 a2 (wrap64 (x8_1 + 1)) a0_0 a0_1 a0_2 l0_3))))) else (none)) else (none))) = some (r1, r2) := H); (have A6 := Aside0.mk A60); (clear A60); (replace H := Option.bind_eq_some_iff.mp H); (obtain ⟨t1455, A70, H⟩ := H); (replace H : (if 0 ≤ a0_0 then (if a0_0 < (t1455.length : Int) then ((spec_chAll.f k1 a0_0 a0_1 a0_2 l0_3 x8_1).bind fun t1459 => (if a2 = 0 then (none) else (if (wrap64 (t1454 - (rd t1455 a0_0))) ≤ (wrap64 (Int.tdiv t1459 a2)) then (if a2 > 1 then (some (x8_1, true)) else (if (wrap64 (t1454 - (rd t1455 a0_0))) = 0 then (some (x8_1, true)) else (spec_chUntil.l0 k1 a1 a2 (wrap64 (x8_1 + 1)) a0_0 a0_1 a0_2 l0_3))) else (if (wrap64 (t1454 - (rd t1455 a0_0))) = 0 then (some (x8_1, true)) else (spec_chUntil.l0 k1 a1 a2 (wrap64 (x8_1 + 1)) a0_0 a0_1 a0_2 l0_3))))) else (none)) else (none)) = some (r1, r2) := H); (have A7 := Aside0.mk A70); (clear A70); (by_cases c8 : 0 ≤ a0_0)
        · rw [if_pos c8] at H
          (have c8b0 : decide (0 ≤ a0_0) = true := decide_eq_true c8); (clear c8); (by_cases c9 : a0_0 < (t1455.length : Int))
          · rw [if_pos c9] at H
            (have c9b0 : decide (a0_0 < (t1455.length : Int)) = true := decide_eq_true c9); (clear c9); (replace H := Option.bind_eq_some_iff.mp H); (obtain ⟨t1459, A100, H⟩ := H); (replace H : (if a2 = 0 then (none) else (if (wrap64 (t1454 - (rd t1455 a0_0))) ≤ (wrap64 (Int.tdiv t1459 a2)) then (if a2 > 1 then (some (x8_1, true)) else (if (wrap64 (t1454 - (rd t1455 a0_0))) = 0 then (some (x8_1, true)) else (spec_chUntil.l0 k1 a1 a2 (wrap64 (x8_1 + 1)) a0_0 a0_1 a0_2 l0_3))) else (if (wrap64 (t1454 - (rd t1455 a0_0))) = 0 then (some (x8_1, true)) else (spec_chUntil.l0 k1 a1 a2 (wrap64 (x8_1 + 1)) a0_0 a0_1 a0_2 l0_3)))) = some (r1, r2) := H); (have A10 := Aside0.mk A100); (clear A100); (by_cases c11 : a2 = 0)
            · rw [if_pos c11] at H
              exact absurd H (by simp)
            · rw [if_neg c11] at H
              (have c11b0 : (a2 == 0) = false := beq_eq_false_iff_ne.mpr c11); (have c11b1 : (a2 != 0) = true := bne_iff_ne.mpr c11); (by_cases c12 : (wrap64 (t1454 - (rd t1455 a0_0))) ≤ (wrap64 (Int.tdiv t1459 a2)))
              · rw [if_pos c12] at H
                (have c12b0 : decide ((wrap64 (t1454 - (rd t1455 a0_0))) ≤ (wrap64 (Int.tdiv t1459 a2))) = true := decide_eq_true c12); (clear c12); (by_cases c13 : a2 > 1)
                · rw [if_pos c13] at H
                  (have c13b0 : decide (1 < a2) = true := decide_eq_true c13); (clear c13); (simp only [Option.some.injEq, Prod.mk.injEq] at H); (obtain ⟨rfl, rfl⟩ := H); (try go_wp2); (have n0_ := Aside0.mk (blk_drew BK1453.out)); (have n1_ := Aside0.mk (below_drew1 HB.out)); (clear BK1453); (clear HB); (have BK1453 := n0_); (have HB := n1_); (clear n0_ n1_); (refine start_ (n := 13) (S := fun w' => w'.cell? ⟨gb1453, 0, none⟩ = some (.int .i64 a0_0) ∧ w'.cell? ⟨gb1453, 1, none⟩ = some (.int .i64 a0_1) ∧ w'.cell? ⟨gb1453, 2, none⟩ = some (.int .i64 a0_2) ∧ w'.cell? ⟨gb1453, 3, none⟩ = some (.slice A0_3 l0_3.length c0_3)) (ds := []) #[false, false, false, false, false, false, false, false, false, false, false, false, false] (by kernel_rfl) rfl rfl ⟨(blk_cell BK1453.out 0).trans rfl, (blk_cell BK1453.out 1).trans rfl, (blk_cell BK1453.out 2).trans rfl, (blk_cell BK1453.out 3).trans rfl⟩ (fun hHeld => ?_); refine with_tabW spec_chUntil.tab4 spec_chUntil.bits4 (fun HT_ HW_ => ?_)); (generalize wr.drew = w14 at BK1453 HB hHeld ⊢); (refine pure_ (i := 1) (N := some 15) (v := ?_) (a' := ?_) #[false, true, false, false, false, false, false, false, false, false, false, false, false] rfl rfl (any_of HT_.out (by kernel_rfl)) (fun _ _ _ h => h) (Or.inl ⟨by rfl, ?_⟩) ?_ ?_); (rotate_left)
                  · intro w'
                    (go_simp); (with_reducible rfl)
                  rotate_left
                  · simp only [Act.put, List.setIfInBounds_toArray, List.set_cons_zero, List.set_cons_succ, i64_w, i32_w]
                    rfl
                  (refine pure_ (i := 4) (N := some 18) (v := ?_) (a' := ?_) #[false, true, false, false, true, false, false, false, false, false, false, false, false] rfl rfl (any_of HT_.out (by kernel_rfl)) (fun _ _ _ h => h) (Or.inl ⟨by rfl, ?_⟩) ?_ ?_); (rotate_left)
                  · intro w'
                    (go_simp); (with_reducible rfl)
                  rotate_left
                  · simp only [Act.put, List.setIfInBounds_toArray, List.set_cons_zero, List.set_cons_succ, i64_w, i32_w]
                    rfl
                  (refine pure_ (i := 5) (N := some 19) (v := ?_) (a' := ?_) #[false, true, false, false, true, true, false, false, false, false, false, false, false] rfl rfl (any_of HT_.out (by kernel_rfl)) (fun _ _ _ h => h) (Or.inl ⟨by rfl, ?_⟩) ?_ ?_); (rotate_left)
                  · intro w'
                    (go_simp); (with_reducible rfl)
                  rotate_left
                  · simp only [Act.put, List.setIfInBounds_toArray, List.set_cons_zero, List.set_cons_succ, i64_w, i32_w]
                    rfl
                  (refine pure_ (i := 7) (N := some 21) (v := ?_) (a' := ?_) #[false, true, false, false, true, true, false, true, false, false, false, false, false] rfl rfl (any_of HT_.out (by kernel_rfl)) (fun _ _ _ h => h) (Or.inl ⟨by rfl, ?_⟩) ?_ ?_); (rotate_left)
                  · intro w'
                    (go_simp); (with_reducible rfl)
                  rotate_left
                  · simp only [Act.put, List.setIfInBounds_toArray, List.set_cons_zero, List.set_cons_succ, i64_w, i32_w]
                    rfl
                  (refine take_ (i := 0) (N := some 14) (v := ?_) (a' := ?_) #[true, true, false, false, true, true, false, true, false, false, false, false, false] rfl rfl (take_ofW HT_.out HW_.out (by kernel_rfl)) (fun _ _ _ h => h) (Or.inl ⟨by rfl, ?_⟩) hHeld ?_ ?_); (rotate_left)
                  · rintro w' ⟨s0, s1, s2, s3⟩
                    (go_simp); (with_reducible rfl)
                  rotate_left
                  · simp only [Act.put, List.setIfInBounds_toArray, List.set_cons_zero, List.set_cons_succ, i64_w, i32_w]
                    rfl
                  (refine take_ (i := 3) (N := some 17) (v := ?_) (a' := ?_) #[true, true, false, true, true, true, false, true, false, false, false, false, false] rfl rfl (take_ofW HT_.out HW_.out (by kernel_rfl)) (fun _ _ _ h => h) (Or.inl ⟨by rfl, ?_⟩) hHeld ?_ ?_); (rotate_left)
                  · rintro w' ⟨s0, s1, s2, s3⟩
                    (go_simp); (with_reducible rfl)
                  rotate_left
                  · simp only [Act.put, List.setIfInBounds_toArray, List.set_cons_zero, List.set_cons_succ, i64_w, i32_w]
                    rfl
                  (refine take_ (i := 8) (N := some 22) (v := ?_) (a' := ?_) #[true, true, false, true, true, true, false, true, true, false, false, false, false] rfl rfl (take_ofW HT_.out HW_.out (by kernel_rfl)) (fun _ _ _ h => h) (Or.inl ⟨by rfl, ?_⟩) hHeld ?_ ?_); (rotate_left)
                  · rintro w' ⟨s0, s1, s2, s3⟩
                    (go_simp); (with_reducible rfl)
                  rotate_left
                  · simp only [Act.put, List.setIfInBounds_toArray, List.set_cons_zero, List.set_cons_succ, i64_w, i32_w]
                    rfl
                  (refine one_ (i := 2) (N := some 16) #[true, true, true, true, true, true, false, true, true, false, false, false, false] rfl rfl (one_of HT_.out (by kernel_rfl)) (by decide) (fun K hK => ?_)); (refine goes_ Try.func225 (by kernel_rfl) rfl #[.agg #[.int .i64 a0_0, .int .i64 a0_1, .int .i64 a0_2, .slice A0_3 l0_3.length c0_3], .int .i64 x8_1] (by rfl) rfl rfl zq6 ?_); (with_reducible refine (spec_chAll.calls k1 a0_0 a0_1 a0_2 _ _ l0_3 x8_1 t1454 _ ?side1 ?side2 A6.out).mono ?_); ((case side1 => exact zq10 HR0_3.out HB.out)); ((case side2 => exact HC0_3.out)); (rintro e w15 ⟨rfl, hb⟩); (refine ⟨_, rfl, ?_⟩); (have n0_ := Aside0.mk (zB BK1453.out hb)); (have n1_ := Aside0.mk (below_step (zq2 HB.out GE1453.out) hb)); (clear BK1453); (clear HB); (have BK1453 := n0_); (have HB := n1_); (clear n0_ n1_); ((try clear hb)); ((try clear hb2)); ((try clear hk)); ((try clear hi)); (refine hK.out _ _ ⟨(blk_cell BK1453.out 0).trans rfl, (blk_cell BK1453.out 1).trans rfl, (blk_cell BK1453.out 2).trans rfl, (blk_cell BK1453.out 3).trans rfl⟩ (fun hHeld => ?_)); (clear hK K); (refine norm_ (a' := ?_) ?_ ?_); (rotate_left)
                  · show Act.put _ (some 16) _ = _
                    (simp only [Act.put, List.setIfInBounds_toArray, List.set_cons_zero, List.set_cons_succ, i64_w, i32_w]); (rfl)
                  (refine one_ (i := 6) (N := some 20) #[true, true, true, true, true, true, true, true, true, false, false, false, false] rfl rfl (one_of HT_.out (by kernel_rfl)) (by decide) (fun K hK => ?_)); (refine goes_ Try.func228 (by kernel_rfl) rfl #[.agg #[.int .i64 a0_0, .int .i64 a0_1, .int .i64 a0_2, .slice A0_3 l0_3.length c0_3], .int .i64 a1, .int .i64 x8_1] (by rfl) rfl rfl zq6 ?_); (with_reducible refine (spec_chPlaces.calls k1 a0_0 a0_1 a0_2 _ _ l0_3 a1 x8_1 t1455 _ ?side1 ?side2 A7.out).mono ?_); ((case side1 => exact zq10 HR0_3.out HB.out)); ((case side2 => exact HC0_3.out)); (rintro e w16 ⟨v1456, rfl, ho0, hb⟩); (refine ⟨_, rfl, ?_⟩); (have n0_ := Aside0.mk (Kd.R_lower ho0 (below_size (zq2 HB.out GE1453.out)))); (have n1_ := Aside0.mk (zB BK1453.out hb)); (have n2_ := Aside0.mk (below_step (zq2 HB.out GE1453.out) hb)); (clear BK1453); (clear HB); (have HO1457 := n0_); (have BK1453 := n1_); (have HB := n2_); (clear n0_ n1_ n2_); ((try clear hb)); ((try clear hb2)); ((try clear hk)); ((try clear hi)); ((try clear ho0)); (obtain ⟨Ao17, co17, eo17⟩ := Kd.R_slice HO1457.out); ((first | subst eo17 | (injection eo17 with f1_ f2_ f3_; have f4_ := f1_.symm; have f5_ := f3_.symm; clear f1_ f2_ f3_; subst f4_; subst f5_))); (have p1458 : 0 ≤ (a0_0 : Int) := of_decide_eq_true zq17); (have q1458 : a0_0 < (t1455.length : Int) := of_decide_eq_true zq17); (obtain ⟨ad1458, e1458, hx1458_0⟩ := Kd.at_int (Kd.R_reads' HO1457.out).2.2 a0_0 p1458 q1458); (cases e1458); (replace p1458 := eq_true p1458); (replace q1458 := eq_true q1458); (refine hK.out _ _ ⟨(blk_cell BK1453.out 0).trans rfl, (blk_cell BK1453.out 1).trans rfl, (blk_cell BK1453.out 2).trans rfl, (blk_cell BK1453.out 3).trans rfl⟩ (fun hHeld => ?_)); (clear hK K); (refine norm_ (a' := ?_) ?_ ?_); (rotate_left)
                  · show Act.put _ (some 20) _ = _
                    (simp only [Act.put, List.setIfInBounds_toArray, List.set_cons_zero, List.set_cons_succ, i64_w, i32_w]); (rfl)
                  (refine pure_ (i := 9) (N := some 23) (v := ?_) (a' := ?_) #[true, true, true, true, true, true, true, true, true, true, false, false, false] rfl rfl (any_of HT_.out (by kernel_rfl)) (fun _ _ _ h => h) (Or.inl ⟨by rfl, ?_⟩) ?_ ?_); (rotate_left)
                  · intro w'
                    (go_simp); (with_reducible rfl)
                  rotate_left
                  · simp only [Act.put, List.setIfInBounds_toArray, List.set_cons_zero, List.set_cons_succ, i64_w, i32_w]
                    rfl
                  (refine one_ (i := 10) (N := some 24) #[true, true, true, true, true, true, true, true, true, true, true, false, false] rfl rfl (one_of HT_.out (by kernel_rfl)) (by decide) (fun K hK => ?_)); (refine value_ (w1 := ?_) (v := ?_) (by rfl) rfl ?_ ?_); (rotate_left 2)
                  · go_simp
                    constructor
                    · rfl
                    · rfl
                  (refine hK.out _ _ ⟨hHeld.1, hHeld.2.1, hHeld.2.2.1, hHeld.2.2.2⟩ (fun hHeld => ?_)); (clear hK K); (refine norm_ (a' := ?_) ?_ ?_); (rotate_left)
                  · show Act.put _ (some 24) _ = _
                    (simp only [Act.put, List.setIfInBounds_toArray, List.set_cons_zero, List.set_cons_succ, i64_w, i32_w]); (rfl)
                  (refine pure_ (i := 11) (N := some 25) (v := ?_) (a' := ?_) #[true, true, true, true, true, true, true, true, true, true, true, true, false] rfl rfl (any_of HT_.out (by kernel_rfl)) (fun _ _ _ h => h) (Or.inl ⟨by rfl, ?_⟩) ?_ ?_); (rotate_left)
                  · intro w'
                    (go_simp); (with_reducible rfl)
                  rotate_left
                  · simp only [Act.put, List.setIfInBounds_toArray, List.set_cons_zero, List.set_cons_succ, i64_w, i32_w]
                    rfl
                  (refine pure_ (i := 12) (N := some 9) (v := ?_) (a' := ?_) #[true, true, true, true, true, true, true, true, true, true, true, true, true] rfl rfl (any_of HT_.out (by kernel_rfl)) (fun _ _ _ h => h) (Or.inl ⟨by rfl, ?_⟩) ?_ ?_); (rotate_left)
                  · intro w'
                    (go_simp); (with_reducible rfl)
                  rotate_left
                  · simp only [Act.put, List.setIfInBounds_toArray, List.set_cons_zero, List.set_cons_succ, i64_w, i32_w]
                    rfl
                  (refine done_ (done_of HT_.out (by kernel_rfl)) ?_); (obtain ⟨hcz18_0, hcz18_1, hcz18_2, hcz18_3, hfz18_0, hfz18_1, hfz18_2, hfz18_3⟩ := bk4_ BK1453.out); (try go_wp2_with (first | ((with_reducible refine gate_callee (f := 225) rfl ?_); refine goesL_ (some 29) rfl rfl Try.func225 (by kernel_rfl) rfl #[.agg #[.int .i64 a0_0, .int .i64 a0_1, .int .i64 a0_2, .slice A0_3 l0_3.length c0_3], .int .i64 x8_1] rfl zq6 ?_; (with_reducible refine (spec_chAll.calls k1 a0_0 a0_1 a0_2 _ _ l0_3 x8_1 t1459 _ ?side1 ?side2 A10.out).mono ?_); (case side1 => exact zq10 HR0_3.out HB.out); (case side2 => exact HC0_3.out); rintro e w19 ⟨rfl, hb⟩; refine ⟨_, rfl, ?_⟩; replace HO1457 := Aside0.mk (Kd.R_below (zq3 HO1457.out) hb); replace BK1453 := Aside0.mk (zB BK1453.out hb); replace HB := Aside0.mk (below_step (zq2 HB.out GE1453.out) hb); (try clear hb); (try clear hb2); (try clear hk); (try clear hi)))); (go_ret2); (exact ⟨zq16, zq2 HB.out GE1453.out⟩)
                · rw [if_neg c13] at H
                  (have c13b0 : decide (1 < a2) = false := decide_eq_false c13); (clear c13); (by_cases c20 : (wrap64 (t1454 - (rd t1455 a0_0))) = 0)
                  · rw [if_pos c20] at H
                    (have c20b0 : ((wrap64 (t1454 - (rd t1455 a0_0))) == 0) = true := beq_iff_eq.mpr c20); (have c20b1 : ((wrap64 (t1454 - (rd t1455 a0_0))) != 0) = false := bne_eq_false_iff_eq.mpr c20); (clear c20); (simp only [Option.some.injEq, Prod.mk.injEq] at H); (obtain ⟨rfl, rfl⟩ := H); (try go_wp2); (have n0_ := Aside0.mk (blk_drew BK1453.out)); (have n1_ := Aside0.mk (below_drew1 HB.out)); (clear BK1453); (clear HB); (have BK1453 := n0_); (have HB := n1_); (clear n0_ n1_); (refine start_ (n := 13) (S := fun w' => w'.cell? ⟨gb1453, 0, none⟩ = some (.int .i64 a0_0) ∧ w'.cell? ⟨gb1453, 1, none⟩ = some (.int .i64 a0_1) ∧ w'.cell? ⟨gb1453, 2, none⟩ = some (.int .i64 a0_2) ∧ w'.cell? ⟨gb1453, 3, none⟩ = some (.slice A0_3 l0_3.length c0_3)) (ds := []) #[false, false, false, false, false, false, false, false, false, false, false, false, false] (by kernel_rfl) rfl rfl ⟨(blk_cell BK1453.out 0).trans rfl, (blk_cell BK1453.out 1).trans rfl, (blk_cell BK1453.out 2).trans rfl, (blk_cell BK1453.out 3).trans rfl⟩ (fun hHeld => ?_); refine with_tabW spec_chUntil.tab4 spec_chUntil.bits4 (fun HT_ HW_ => ?_)); (generalize wr.drew = w21 at BK1453 HB hHeld ⊢); (refine pure_ (i := 1) (N := some 15) (v := ?_) (a' := ?_) #[false, true, false, false, false, false, false, false, false, false, false, false, false] rfl rfl (any_of HT_.out (by kernel_rfl)) (fun _ _ _ h => h) (Or.inl ⟨by rfl, ?_⟩) ?_ ?_); (rotate_left)
                    · intro w'
                      (go_simp); (with_reducible rfl)
                    rotate_left
                    · simp only [Act.put, List.setIfInBounds_toArray, List.set_cons_zero, List.set_cons_succ, i64_w, i32_w]
                      rfl
                    (refine pure_ (i := 4) (N := some 18) (v := ?_) (a' := ?_) #[false, true, false, false, true, false, false, false, false, false, false, false, false] rfl rfl (any_of HT_.out (by kernel_rfl)) (fun _ _ _ h => h) (Or.inl ⟨by rfl, ?_⟩) ?_ ?_); (rotate_left)
                    · intro w'
                      (go_simp); (with_reducible rfl)
                    rotate_left
                    · simp only [Act.put, List.setIfInBounds_toArray, List.set_cons_zero, List.set_cons_succ, i64_w, i32_w]
                      rfl
                    (refine pure_ (i := 5) (N := some 19) (v := ?_) (a' := ?_) #[false, true, false, false, true, true, false, false, false, false, false, false, false] rfl rfl (any_of HT_.out (by kernel_rfl)) (fun _ _ _ h => h) (Or.inl ⟨by rfl, ?_⟩) ?_ ?_); (rotate_left)
                    · intro w'
                      (go_simp); (with_reducible rfl)
                    rotate_left
                    · simp only [Act.put, List.setIfInBounds_toArray, List.set_cons_zero, List.set_cons_succ, i64_w, i32_w]
                      rfl
                    (refine pure_ (i := 7) (N := some 21) (v := ?_) (a' := ?_) #[false, true, false, false, true, true, false, true, false, false, false, false, false] rfl rfl (any_of HT_.out (by kernel_rfl)) (fun _ _ _ h => h) (Or.inl ⟨by rfl, ?_⟩) ?_ ?_); (rotate_left)
                    · intro w'
                      (go_simp); (with_reducible rfl)
                    rotate_left
                    · simp only [Act.put, List.setIfInBounds_toArray, List.set_cons_zero, List.set_cons_succ, i64_w, i32_w]
                      rfl
                    (refine take_ (i := 0) (N := some 14) (v := ?_) (a' := ?_) #[true, true, false, false, true, true, false, true, false, false, false, false, false] rfl rfl (take_ofW HT_.out HW_.out (by kernel_rfl)) (fun _ _ _ h => h) (Or.inl ⟨by rfl, ?_⟩) hHeld ?_ ?_); (rotate_left)
                    · rintro w' ⟨s0, s1, s2, s3⟩
                      (go_simp); (with_reducible rfl)
                    rotate_left
                    · simp only [Act.put, List.setIfInBounds_toArray, List.set_cons_zero, List.set_cons_succ, i64_w, i32_w]
                      rfl
                    (refine take_ (i := 3) (N := some 17) (v := ?_) (a' := ?_) #[true, true, false, true, true, true, false, true, false, false, false, false, false] rfl rfl (take_ofW HT_.out HW_.out (by kernel_rfl)) (fun _ _ _ h => h) (Or.inl ⟨by rfl, ?_⟩) hHeld ?_ ?_); (rotate_left)
                    · rintro w' ⟨s0, s1, s2, s3⟩
                      (go_simp); (with_reducible rfl)
                    rotate_left
                    · simp only [Act.put, List.setIfInBounds_toArray, List.set_cons_zero, List.set_cons_succ, i64_w, i32_w]
                      rfl
                    (refine take_ (i := 8) (N := some 22) (v := ?_) (a' := ?_) #[true, true, false, true, true, true, false, true, true, false, false, false, false] rfl rfl (take_ofW HT_.out HW_.out (by kernel_rfl)) (fun _ _ _ h => h) (Or.inl ⟨by rfl, ?_⟩) hHeld ?_ ?_); (rotate_left)
                    · rintro w' ⟨s0, s1, s2, s3⟩
                      (go_simp); (with_reducible rfl)
                    rotate_left
                    · simp only [Act.put, List.setIfInBounds_toArray, List.set_cons_zero, List.set_cons_succ, i64_w, i32_w]
                      rfl
                    (refine one_ (i := 2) (N := some 16) #[true, true, true, true, true, true, false, true, true, false, false, false, false] rfl rfl (one_of HT_.out (by kernel_rfl)) (by decide) (fun K hK => ?_)); (refine goes_ Try.func225 (by kernel_rfl) rfl #[.agg #[.int .i64 a0_0, .int .i64 a0_1, .int .i64 a0_2, .slice A0_3 l0_3.length c0_3], .int .i64 x8_1] (by rfl) rfl rfl zq6 ?_); (with_reducible refine (spec_chAll.calls k1 a0_0 a0_1 a0_2 _ _ l0_3 x8_1 t1454 _ ?side1 ?side2 A6.out).mono ?_); ((case side1 => exact zq10 HR0_3.out HB.out)); ((case side2 => exact HC0_3.out)); (rintro e w22 ⟨rfl, hb⟩); (refine ⟨_, rfl, ?_⟩); (have n0_ := Aside0.mk (zB BK1453.out hb)); (have n1_ := Aside0.mk (below_step (zq2 HB.out GE1453.out) hb)); (clear BK1453); (clear HB); (have BK1453 := n0_); (have HB := n1_); (clear n0_ n1_); ((try clear hb)); ((try clear hb2)); ((try clear hk)); ((try clear hi)); (refine hK.out _ _ ⟨(blk_cell BK1453.out 0).trans rfl, (blk_cell BK1453.out 1).trans rfl, (blk_cell BK1453.out 2).trans rfl, (blk_cell BK1453.out 3).trans rfl⟩ (fun hHeld => ?_)); (clear hK K); (refine norm_ (a' := ?_) ?_ ?_); (rotate_left)
                    · show Act.put _ (some 16) _ = _
                      (simp only [Act.put, List.setIfInBounds_toArray, List.set_cons_zero, List.set_cons_succ, i64_w, i32_w]); (rfl)
                    (refine one_ (i := 6) (N := some 20) #[true, true, true, true, true, true, true, true, true, false, false, false, false] rfl rfl (one_of HT_.out (by kernel_rfl)) (by decide) (fun K hK => ?_)); (refine goes_ Try.func228 (by kernel_rfl) rfl #[.agg #[.int .i64 a0_0, .int .i64 a0_1, .int .i64 a0_2, .slice A0_3 l0_3.length c0_3], .int .i64 a1, .int .i64 x8_1] (by rfl) rfl rfl zq6 ?_); (with_reducible refine (spec_chPlaces.calls k1 a0_0 a0_1 a0_2 _ _ l0_3 a1 x8_1 t1455 _ ?side1 ?side2 A7.out).mono ?_); ((case side1 => exact zq10 HR0_3.out HB.out)); ((case side2 => exact HC0_3.out)); (rintro e w23 ⟨v1456, rfl, ho0, hb⟩); (refine ⟨_, rfl, ?_⟩); (have n0_ := Aside0.mk (Kd.R_lower ho0 (below_size (zq2 HB.out GE1453.out)))); (have n1_ := Aside0.mk (zB BK1453.out hb)); (have n2_ := Aside0.mk (below_step (zq2 HB.out GE1453.out) hb)); (clear BK1453); (clear HB); (have HO1457 := n0_); (have BK1453 := n1_); (have HB := n2_); (clear n0_ n1_ n2_); ((try clear hb)); ((try clear hb2)); ((try clear hk)); ((try clear hi)); ((try clear ho0)); (obtain ⟨Ao24, co24, eo24⟩ := Kd.R_slice HO1457.out); ((first | subst eo24 | (injection eo24 with f1_ f2_ f3_; have f4_ := f1_.symm; have f5_ := f3_.symm; clear f1_ f2_ f3_; subst f4_; subst f5_))); (have p1458 : 0 ≤ (a0_0 : Int) := of_decide_eq_true zq17); (have q1458 : a0_0 < (t1455.length : Int) := of_decide_eq_true zq17); (obtain ⟨ad1458, e1458, hx1458_0⟩ := Kd.at_int (Kd.R_reads' HO1457.out).2.2 a0_0 p1458 q1458); (cases e1458); (replace p1458 := eq_true p1458); (replace q1458 := eq_true q1458); (refine hK.out _ _ ⟨(blk_cell BK1453.out 0).trans rfl, (blk_cell BK1453.out 1).trans rfl, (blk_cell BK1453.out 2).trans rfl, (blk_cell BK1453.out 3).trans rfl⟩ (fun hHeld => ?_)); (clear hK K); (refine norm_ (a' := ?_) ?_ ?_); (rotate_left)
                    · show Act.put _ (some 20) _ = _
                      (simp only [Act.put, List.setIfInBounds_toArray, List.set_cons_zero, List.set_cons_succ, i64_w, i32_w]); (rfl)
                    (refine pure_ (i := 9) (N := some 23) (v := ?_) (a' := ?_) #[true, true, true, true, true, true, true, true, true, true, false, false, false] rfl rfl (any_of HT_.out (by kernel_rfl)) (fun _ _ _ h => h) (Or.inl ⟨by rfl, ?_⟩) ?_ ?_); (rotate_left)
                    · intro w'
                      (go_simp); (with_reducible rfl)
                    rotate_left
                    · simp only [Act.put, List.setIfInBounds_toArray, List.set_cons_zero, List.set_cons_succ, i64_w, i32_w]
                      rfl
                    (refine one_ (i := 10) (N := some 24) #[true, true, true, true, true, true, true, true, true, true, true, false, false] rfl rfl (one_of HT_.out (by kernel_rfl)) (by decide) (fun K hK => ?_)); (refine value_ (w1 := ?_) (v := ?_) (by rfl) rfl ?_ ?_); (rotate_left 2)
                    · go_simp
                      constructor
                      · rfl
                      · rfl
                    (refine hK.out _ _ ⟨hHeld.1, hHeld.2.1, hHeld.2.2.1, hHeld.2.2.2⟩ (fun hHeld => ?_)); (clear hK K); (refine norm_ (a' := ?_) ?_ ?_); (rotate_left)
                    · show Act.put _ (some 24) _ = _
                      (simp only [Act.put, List.setIfInBounds_toArray, List.set_cons_zero, List.set_cons_succ, i64_w, i32_w]); (rfl)
                    (refine pure_ (i := 11) (N := some 25) (v := ?_) (a' := ?_) #[true, true, true, true, true, true, true, true, true, true, true, true, false] rfl rfl (any_of HT_.out (by kernel_rfl)) (fun _ _ _ h => h) (Or.inl ⟨by rfl, ?_⟩) ?_ ?_); (rotate_left)
                    · intro w'
                      (go_simp); (with_reducible rfl)
                    rotate_left
                    · simp only [Act.put, List.setIfInBounds_toArray, List.set_cons_zero, List.set_cons_succ, i64_w, i32_w]
                      rfl
                    (refine pure_ (i := 12) (N := some 9) (v := ?_) (a' := ?_) #[true, true, true, true, true, true, true, true, true, true, true, true, true] rfl rfl (any_of HT_.out (by kernel_rfl)) (fun _ _ _ h => h) (Or.inl ⟨by rfl, ?_⟩) ?_ ?_); (rotate_left)
                    · intro w'
                      (go_simp); (with_reducible rfl)
                    rotate_left
                    · simp only [Act.put, List.setIfInBounds_toArray, List.set_cons_zero, List.set_cons_succ, i64_w, i32_w]
                      rfl
                    (refine done_ (done_of HT_.out (by kernel_rfl)) ?_); (obtain ⟨hcz25_0, hcz25_1, hcz25_2, hcz25_3, hfz25_0, hfz25_1, hfz25_2, hfz25_3⟩ := bk4_ BK1453.out); (try go_wp2_with (first | ((with_reducible refine gate_callee (f := 225) rfl ?_); refine goesL_ (some 29) rfl rfl Try.func225 (by kernel_rfl) rfl #[.agg #[.int .i64 a0_0, .int .i64 a0_1, .int .i64 a0_2, .slice A0_3 l0_3.length c0_3], .int .i64 x8_1] rfl zq6 ?_; (with_reducible refine (spec_chAll.calls k1 a0_0 a0_1 a0_2 _ _ l0_3 x8_1 t1459 _ ?side1 ?side2 A10.out).mono ?_); (case side1 => exact zq10 HR0_3.out HB.out); (case side2 => exact HC0_3.out); rintro e w26 ⟨rfl, hb⟩; refine ⟨_, rfl, ?_⟩; replace HO1457 := Aside0.mk (Kd.R_below (zq3 HO1457.out) hb); replace BK1453 := Aside0.mk (zB BK1453.out hb); replace HB := Aside0.mk (below_step (zq2 HB.out GE1453.out) hb); (try clear hb); (try clear hb2); (try clear hk); (try clear hi)))); (go_ret2); (exact ⟨zq16, zq2 HB.out GE1453.out⟩)
                  · rw [if_neg c20] at H
                    (have c20b0 : ((wrap64 (t1454 - (rd t1455 a0_0))) == 0) = false := beq_eq_false_iff_ne.mpr c20); (have c20b1 : ((wrap64 (t1454 - (rd t1455 a0_0))) != 0) = true := bne_iff_ne.mpr c20); (have H' := Aside0.mk H); (clear H); (try go_wp2); (have n0_ := Aside0.mk (blk_drew BK1453.out)); (have n1_ := Aside0.mk (below_drew1 HB.out)); (clear BK1453); (clear HB); (have BK1453 := n0_); (have HB := n1_); (clear n0_ n1_); (refine start_ (n := 13) (S := fun w' => w'.cell? ⟨gb1453, 0, none⟩ = some (.int .i64 a0_0) ∧ w'.cell? ⟨gb1453, 1, none⟩ = some (.int .i64 a0_1) ∧ w'.cell? ⟨gb1453, 2, none⟩ = some (.int .i64 a0_2) ∧ w'.cell? ⟨gb1453, 3, none⟩ = some (.slice A0_3 l0_3.length c0_3)) (ds := []) #[false, false, false, false, false, false, false, false, false, false, false, false, false] (by kernel_rfl) rfl rfl ⟨(blk_cell BK1453.out 0).trans rfl, (blk_cell BK1453.out 1).trans rfl, (blk_cell BK1453.out 2).trans rfl, (blk_cell BK1453.out 3).trans rfl⟩ (fun hHeld => ?_); refine with_tabW spec_chUntil.tab4 spec_chUntil.bits4 (fun HT_ HW_ => ?_)); (generalize wr.drew = w27 at BK1453 HB hHeld ⊢); (refine pure_ (i := 1) (N := some 15) (v := ?_) (a' := ?_) #[false, true, false, false, false, false, false, false, false, false, false, false, false] rfl rfl (any_of HT_.out (by kernel_rfl)) (fun _ _ _ h => h) (Or.inl ⟨by rfl, ?_⟩) ?_ ?_); (rotate_left)
                    · intro w'
                      (go_simp); (with_reducible rfl)
                    rotate_left
                    · simp only [Act.put, List.setIfInBounds_toArray, List.set_cons_zero, List.set_cons_succ, i64_w, i32_w]
                      rfl
                    (refine pure_ (i := 4) (N := some 18) (v := ?_) (a' := ?_) #[false, true, false, false, true, false, false, false, false, false, false, false, false] rfl rfl (any_of HT_.out (by kernel_rfl)) (fun _ _ _ h => h) (Or.inl ⟨by rfl, ?_⟩) ?_ ?_); (rotate_left)
                    · intro w'
                      (go_simp); (with_reducible rfl)
                    rotate_left
                    · simp only [Act.put, List.setIfInBounds_toArray, List.set_cons_zero, List.set_cons_succ, i64_w, i32_w]
                      rfl
                    (refine pure_ (i := 5) (N := some 19) (v := ?_) (a' := ?_) #[false, true, false, false, true, true, false, false, false, false, false, false, false] rfl rfl (any_of HT_.out (by kernel_rfl)) (fun _ _ _ h => h) (Or.inl ⟨by rfl, ?_⟩) ?_ ?_); (rotate_left)
                    · intro w'
                      (go_simp); (with_reducible rfl)
                    rotate_left
                    · simp only [Act.put, List.setIfInBounds_toArray, List.set_cons_zero, List.set_cons_succ, i64_w, i32_w]
                      rfl
                    (refine pure_ (i := 7) (N := some 21) (v := ?_) (a' := ?_) #[false, true, false, false, true, true, false, true, false, false, false, false, false] rfl rfl (any_of HT_.out (by kernel_rfl)) (fun _ _ _ h => h) (Or.inl ⟨by rfl, ?_⟩) ?_ ?_); (rotate_left)
                    · intro w'
                      (go_simp); (with_reducible rfl)
                    rotate_left
                    · simp only [Act.put, List.setIfInBounds_toArray, List.set_cons_zero, List.set_cons_succ, i64_w, i32_w]
                      rfl
                    (refine take_ (i := 0) (N := some 14) (v := ?_) (a' := ?_) #[true, true, false, false, true, true, false, true, false, false, false, false, false] rfl rfl (take_ofW HT_.out HW_.out (by kernel_rfl)) (fun _ _ _ h => h) (Or.inl ⟨by rfl, ?_⟩) hHeld ?_ ?_); (rotate_left)
                    · rintro w' ⟨s0, s1, s2, s3⟩
                      (go_simp); (with_reducible rfl)
                    rotate_left
                    · simp only [Act.put, List.setIfInBounds_toArray, List.set_cons_zero, List.set_cons_succ, i64_w, i32_w]
                      rfl
                    (refine take_ (i := 3) (N := some 17) (v := ?_) (a' := ?_) #[true, true, false, true, true, true, false, true, false, false, false, false, false] rfl rfl (take_ofW HT_.out HW_.out (by kernel_rfl)) (fun _ _ _ h => h) (Or.inl ⟨by rfl, ?_⟩) hHeld ?_ ?_); (rotate_left)
                    · rintro w' ⟨s0, s1, s2, s3⟩
                      (go_simp); (with_reducible rfl)
                    rotate_left
                    · simp only [Act.put, List.setIfInBounds_toArray, List.set_cons_zero, List.set_cons_succ, i64_w, i32_w]
                      rfl
                    (refine take_ (i := 8) (N := some 22) (v := ?_) (a' := ?_) #[true, true, false, true, true, true, false, true, true, false, false, false, false] rfl rfl (take_ofW HT_.out HW_.out (by kernel_rfl)) (fun _ _ _ h => h) (Or.inl ⟨by rfl, ?_⟩) hHeld ?_ ?_); (rotate_left)
                    · rintro w' ⟨s0, s1, s2, s3⟩
                      (go_simp); (with_reducible rfl)
                    rotate_left
                    · simp only [Act.put, List.setIfInBounds_toArray, List.set_cons_zero, List.set_cons_succ, i64_w, i32_w]
                      rfl
                    (refine one_ (i := 2) (N := some 16) #[true, true, true, true, true, true, false, true, true, false, false, false, false] rfl rfl (one_of HT_.out (by kernel_rfl)) (by decide) (fun K hK => ?_)); (refine goes_ Try.func225 (by kernel_rfl) rfl #[.agg #[.int .i64 a0_0, .int .i64 a0_1, .int .i64 a0_2, .slice A0_3 l0_3.length c0_3], .int .i64 x8_1] (by rfl) rfl rfl zq6 ?_); (with_reducible refine (spec_chAll.calls k1 a0_0 a0_1 a0_2 _ _ l0_3 x8_1 t1454 _ ?side1 ?side2 A6.out).mono ?_); ((case side1 => exact zq10 HR0_3.out HB.out)); ((case side2 => exact HC0_3.out)); (rintro e w28 ⟨rfl, hb⟩); (refine ⟨_, rfl, ?_⟩); (have n0_ := Aside0.mk (zB BK1453.out hb)); (have n1_ := Aside0.mk (below_step (zq2 HB.out GE1453.out) hb)); (clear BK1453); (clear HB); (have BK1453 := n0_); (have HB := n1_); (clear n0_ n1_); ((try clear hb)); ((try clear hb2)); ((try clear hk)); ((try clear hi)); (refine hK.out _ _ ⟨(blk_cell BK1453.out 0).trans rfl, (blk_cell BK1453.out 1).trans rfl, (blk_cell BK1453.out 2).trans rfl, (blk_cell BK1453.out 3).trans rfl⟩ (fun hHeld => ?_)); (clear hK K); (refine norm_ (a' := ?_) ?_ ?_); (rotate_left)
                    · show Act.put _ (some 16) _ = _
                      (simp only [Act.put, List.setIfInBounds_toArray, List.set_cons_zero, List.set_cons_succ, i64_w, i32_w]); (rfl)
                    (refine one_ (i := 6) (N := some 20) #[true, true, true, true, true, true, true, true, true, false, false, false, false] rfl rfl (one_of HT_.out (by kernel_rfl)) (by decide) (fun K hK => ?_)); (refine goes_ Try.func228 (by kernel_rfl) rfl #[.agg #[.int .i64 a0_0, .int .i64 a0_1, .int .i64 a0_2, .slice A0_3 l0_3.length c0_3], .int .i64 a1, .int .i64 x8_1] (by rfl) rfl rfl zq6 ?_); (with_reducible refine (spec_chPlaces.calls k1 a0_0 a0_1 a0_2 _ _ l0_3 a1 x8_1 t1455 _ ?side1 ?side2 A7.out).mono ?_); ((case side1 => exact zq10 HR0_3.out HB.out)); ((case side2 => exact HC0_3.out)); (rintro e w29 ⟨v1456, rfl, ho0, hb⟩); (refine ⟨_, rfl, ?_⟩); (have n0_ := Aside0.mk (Kd.R_lower ho0 (below_size (zq2 HB.out GE1453.out)))); (have n1_ := Aside0.mk (zB BK1453.out hb)); (have n2_ := Aside0.mk (below_step (zq2 HB.out GE1453.out) hb)); (clear BK1453); (clear HB); (have HO1457 := n0_); (have BK1453 := n1_); (have HB := n2_); (clear n0_ n1_ n2_); ((try clear hb)); ((try clear hb2)); ((try clear hk)); ((try clear hi)); ((try clear ho0)); (obtain ⟨Ao30, co30, eo30⟩ := Kd.R_slice HO1457.out); ((first | subst eo30 | (injection eo30 with f1_ f2_ f3_; have f4_ := f1_.symm; have f5_ := f3_.symm; clear f1_ f2_ f3_; subst f4_; subst f5_))); (have p1458 : 0 ≤ (a0_0 : Int) := of_decide_eq_true zq17); (have q1458 : a0_0 < (t1455.length : Int) := of_decide_eq_true zq17); (obtain ⟨ad1458, e1458, hx1458_0⟩ := Kd.at_int (Kd.R_reads' HO1457.out).2.2 a0_0 p1458 q1458); (cases e1458); (replace p1458 := eq_true p1458); (replace q1458 := eq_true q1458); (refine hK.out _ _ ⟨(blk_cell BK1453.out 0).trans rfl, (blk_cell BK1453.out 1).trans rfl, (blk_cell BK1453.out 2).trans rfl, (blk_cell BK1453.out 3).trans rfl⟩ (fun hHeld => ?_)); (clear hK K); (refine norm_ (a' := ?_) ?_ ?_); (rotate_left)
                    · show Act.put _ (some 20) _ = _
                      (simp only [Act.put, List.setIfInBounds_toArray, List.set_cons_zero, List.set_cons_succ, i64_w, i32_w]); (rfl)
                    (refine pure_ (i := 9) (N := some 23) (v := ?_) (a' := ?_) #[true, true, true, true, true, true, true, true, true, true, false, false, false] rfl rfl (any_of HT_.out (by kernel_rfl)) (fun _ _ _ h => h) (Or.inl ⟨by rfl, ?_⟩) ?_ ?_); (rotate_left)
                    · intro w'
                      (go_simp); (with_reducible rfl)
                    rotate_left
                    · simp only [Act.put, List.setIfInBounds_toArray, List.set_cons_zero, List.set_cons_succ, i64_w, i32_w]
                      rfl
                    (refine one_ (i := 10) (N := some 24) #[true, true, true, true, true, true, true, true, true, true, true, false, false] rfl rfl (one_of HT_.out (by kernel_rfl)) (by decide) (fun K hK => ?_)); (refine value_ (w1 := ?_) (v := ?_) (by rfl) rfl ?_ ?_); (rotate_left 2)
                    · go_simp
                      constructor
                      · rfl
                      · rfl
                    (refine hK.out _ _ ⟨hHeld.1, hHeld.2.1, hHeld.2.2.1, hHeld.2.2.2⟩ (fun hHeld => ?_)); (clear hK K); (refine norm_ (a' := ?_) ?_ ?_); (rotate_left)
                    · show Act.put _ (some 24) _ = _
                      (simp only [Act.put, List.setIfInBounds_toArray, List.set_cons_zero, List.set_cons_succ, i64_w, i32_w]); (rfl)
                    (refine pure_ (i := 11) (N := some 25) (v := ?_) (a' := ?_) #[true, true, true, true, true, true, true, true, true, true, true, true, false] rfl rfl (any_of HT_.out (by kernel_rfl)) (fun _ _ _ h => h) (Or.inl ⟨by rfl, ?_⟩) ?_ ?_); (rotate_left)
                    · intro w'
                      (go_simp); (with_reducible rfl)
                    rotate_left
                    · simp only [Act.put, List.setIfInBounds_toArray, List.set_cons_zero, List.set_cons_succ, i64_w, i32_w]
                      rfl
                    (refine pure_ (i := 12) (N := some 9) (v := ?_) (a' := ?_) #[true, true, true, true, true, true, true, true, true, true, true, true, true] rfl rfl (any_of HT_.out (by kernel_rfl)) (fun _ _ _ h => h) (Or.inl ⟨by rfl, ?_⟩) ?_ ?_); (rotate_left)
                    · intro w'
                      (go_simp); (with_reducible rfl)
                    rotate_left
                    · simp only [Act.put, List.setIfInBounds_toArray, List.set_cons_zero, List.set_cons_succ, i64_w, i32_w]
                      rfl
                    (refine done_ (done_of HT_.out (by kernel_rfl)) ?_); (obtain ⟨hcz31_0, hcz31_1, hcz31_2, hcz31_3, hfz31_0, hfz31_1, hfz31_2, hfz31_3⟩ := bk4_ BK1453.out); (try go_wp2_with (first | ((with_reducible refine gate_callee (f := 225) rfl ?_); refine goesL_ (some 29) rfl rfl Try.func225 (by kernel_rfl) rfl #[.agg #[.int .i64 a0_0, .int .i64 a0_1, .int .i64 a0_2, .slice A0_3 l0_3.length c0_3], .int .i64 x8_1] rfl zq6 ?_; (with_reducible refine (spec_chAll.calls k1 a0_0 a0_1 a0_2 _ _ l0_3 x8_1 t1459 _ ?side1 ?side2 A10.out).mono ?_); (case side1 => exact zq10 HR0_3.out HB.out); (case side2 => exact HC0_3.out); rintro e w32 ⟨rfl, hb⟩; refine ⟨_, rfl, ?_⟩; replace HO1457 := Aside0.mk (Kd.R_below (zq3 HO1457.out) hb); replace BK1453 := Aside0.mk (zB BK1453.out hb); replace HB := Aside0.mk (below_step (zq2 HB.out GE1453.out) hb); (try clear hb); (try clear hb2); (try clear hk); (try clear hi)))); (go_roundg k1)
                    case measure => have := HK1.out; omega
                    case rel => exact ⟨(wrap64 (x8_1 + 1)), zq25, H', ⟨by have := HK1.out; omega⟩, ⟨zq1 BK1453.out⟩, ⟨zq2 HB.out GE1453.out⟩⟩
              · rw [if_neg c12] at H
                (have c12b0 : decide ((wrap64 (t1454 - (rd t1455 a0_0))) ≤ (wrap64 (Int.tdiv t1459 a2))) = false := decide_eq_false c12); (clear c12); (by_cases c33 : (wrap64 (t1454 - (rd t1455 a0_0))) = 0)
                · rw [if_pos c33] at H
                  (have c33b0 : ((wrap64 (t1454 - (rd t1455 a0_0))) == 0) = true := beq_iff_eq.mpr c33); (have c33b1 : ((wrap64 (t1454 - (rd t1455 a0_0))) != 0) = false := bne_eq_false_iff_eq.mpr c33); (clear c33); (simp only [Option.some.injEq, Prod.mk.injEq] at H); (obtain ⟨rfl, rfl⟩ := H); (try go_wp2); (have n0_ := Aside0.mk (blk_drew BK1453.out)); (have n1_ := Aside0.mk (below_drew1 HB.out)); (clear BK1453); (clear HB); (have BK1453 := n0_); (have HB := n1_); (clear n0_ n1_); (refine start_ (n := 13) (S := fun w' => w'.cell? ⟨gb1453, 0, none⟩ = some (.int .i64 a0_0) ∧ w'.cell? ⟨gb1453, 1, none⟩ = some (.int .i64 a0_1) ∧ w'.cell? ⟨gb1453, 2, none⟩ = some (.int .i64 a0_2) ∧ w'.cell? ⟨gb1453, 3, none⟩ = some (.slice A0_3 l0_3.length c0_3)) (ds := []) #[false, false, false, false, false, false, false, false, false, false, false, false, false] (by kernel_rfl) rfl rfl ⟨(blk_cell BK1453.out 0).trans rfl, (blk_cell BK1453.out 1).trans rfl, (blk_cell BK1453.out 2).trans rfl, (blk_cell BK1453.out 3).trans rfl⟩ (fun hHeld => ?_); refine with_tabW spec_chUntil.tab4 spec_chUntil.bits4 (fun HT_ HW_ => ?_)); (generalize wr.drew = w34 at BK1453 HB hHeld ⊢); (refine pure_ (i := 1) (N := some 15) (v := ?_) (a' := ?_) #[false, true, false, false, false, false, false, false, false, false, false, false, false] rfl rfl (any_of HT_.out (by kernel_rfl)) (fun _ _ _ h => h) (Or.inl ⟨by rfl, ?_⟩) ?_ ?_); (rotate_left)
                  · intro w'
                    (go_simp); (with_reducible rfl)
                  rotate_left
                  · simp only [Act.put, List.setIfInBounds_toArray, List.set_cons_zero, List.set_cons_succ, i64_w, i32_w]
                    rfl
                  (refine pure_ (i := 4) (N := some 18) (v := ?_) (a' := ?_) #[false, true, false, false, true, false, false, false, false, false, false, false, false] rfl rfl (any_of HT_.out (by kernel_rfl)) (fun _ _ _ h => h) (Or.inl ⟨by rfl, ?_⟩) ?_ ?_); (rotate_left)
                  · intro w'
                    (go_simp); (with_reducible rfl)
                  rotate_left
                  · simp only [Act.put, List.setIfInBounds_toArray, List.set_cons_zero, List.set_cons_succ, i64_w, i32_w]
                    rfl
                  (refine pure_ (i := 5) (N := some 19) (v := ?_) (a' := ?_) #[false, true, false, false, true, true, false, false, false, false, false, false, false] rfl rfl (any_of HT_.out (by kernel_rfl)) (fun _ _ _ h => h) (Or.inl ⟨by rfl, ?_⟩) ?_ ?_); (rotate_left)
                  · intro w'
                    (go_simp); (with_reducible rfl)
                  rotate_left
                  · simp only [Act.put, List.setIfInBounds_toArray, List.set_cons_zero, List.set_cons_succ, i64_w, i32_w]
                    rfl
                  (refine pure_ (i := 7) (N := some 21) (v := ?_) (a' := ?_) #[false, true, false, false, true, true, false, true, false, false, false, false, false] rfl rfl (any_of HT_.out (by kernel_rfl)) (fun _ _ _ h => h) (Or.inl ⟨by rfl, ?_⟩) ?_ ?_); (rotate_left)
                  · intro w'
                    (go_simp); (with_reducible rfl)
                  rotate_left
                  · simp only [Act.put, List.setIfInBounds_toArray, List.set_cons_zero, List.set_cons_succ, i64_w, i32_w]
                    rfl
                  (refine take_ (i := 0) (N := some 14) (v := ?_) (a' := ?_) #[true, true, false, false, true, true, false, true, false, false, false, false, false] rfl rfl (take_ofW HT_.out HW_.out (by kernel_rfl)) (fun _ _ _ h => h) (Or.inl ⟨by rfl, ?_⟩) hHeld ?_ ?_); (rotate_left)
                  · rintro w' ⟨s0, s1, s2, s3⟩
                    (go_simp); (with_reducible rfl)
                  rotate_left
                  · simp only [Act.put, List.setIfInBounds_toArray, List.set_cons_zero, List.set_cons_succ, i64_w, i32_w]
                    rfl
                  (refine take_ (i := 3) (N := some 17) (v := ?_) (a' := ?_) #[true, true, false, true, true, true, false, true, false, false, false, false, false] rfl rfl (take_ofW HT_.out HW_.out (by kernel_rfl)) (fun _ _ _ h => h) (Or.inl ⟨by rfl, ?_⟩) hHeld ?_ ?_); (rotate_left)
                  · rintro w' ⟨s0, s1, s2, s3⟩
                    (go_simp); (with_reducible rfl)
                  rotate_left
                  · simp only [Act.put, List.setIfInBounds_toArray, List.set_cons_zero, List.set_cons_succ, i64_w, i32_w]
                    rfl
                  (refine take_ (i := 8) (N := some 22) (v := ?_) (a' := ?_) #[true, true, false, true, true, true, false, true, true, false, false, false, false] rfl rfl (take_ofW HT_.out HW_.out (by kernel_rfl)) (fun _ _ _ h => h) (Or.inl ⟨by rfl, ?_⟩) hHeld ?_ ?_); (rotate_left)
                  · rintro w' ⟨s0, s1, s2, s3⟩
                    (go_simp); (with_reducible rfl)
                  rotate_left
                  · simp only [Act.put, List.setIfInBounds_toArray, List.set_cons_zero, List.set_cons_succ, i64_w, i32_w]
                    rfl
                  (refine one_ (i := 2) (N := some 16) #[true, true, true, true, true, true, false, true, true, false, false, false, false] rfl rfl (one_of HT_.out (by kernel_rfl)) (by decide) (fun K hK => ?_)); (refine goes_ Try.func225 (by kernel_rfl) rfl #[.agg #[.int .i64 a0_0, .int .i64 a0_1, .int .i64 a0_2, .slice A0_3 l0_3.length c0_3], .int .i64 x8_1] (by rfl) rfl rfl zq6 ?_); (with_reducible refine (spec_chAll.calls k1 a0_0 a0_1 a0_2 _ _ l0_3 x8_1 t1454 _ ?side1 ?side2 A6.out).mono ?_); ((case side1 => exact zq10 HR0_3.out HB.out)); ((case side2 => exact HC0_3.out)); (rintro e w35 ⟨rfl, hb⟩); (refine ⟨_, rfl, ?_⟩); (have n0_ := Aside0.mk (zB BK1453.out hb)); (have n1_ := Aside0.mk (below_step (zq2 HB.out GE1453.out) hb)); (clear BK1453); (clear HB); (have BK1453 := n0_); (have HB := n1_); (clear n0_ n1_); ((try clear hb)); ((try clear hb2)); ((try clear hk)); ((try clear hi)); (refine hK.out _ _ ⟨(blk_cell BK1453.out 0).trans rfl, (blk_cell BK1453.out 1).trans rfl, (blk_cell BK1453.out 2).trans rfl, (blk_cell BK1453.out 3).trans rfl⟩ (fun hHeld => ?_)); (clear hK K); (refine norm_ (a' := ?_) ?_ ?_); (rotate_left)
                  · show Act.put _ (some 16) _ = _
                    (simp only [Act.put, List.setIfInBounds_toArray, List.set_cons_zero, List.set_cons_succ, i64_w, i32_w]); (rfl)
                  (refine one_ (i := 6) (N := some 20) #[true, true, true, true, true, true, true, true, true, false, false, false, false] rfl rfl (one_of HT_.out (by kernel_rfl)) (by decide) (fun K hK => ?_)); (refine goes_ Try.func228 (by kernel_rfl) rfl #[.agg #[.int .i64 a0_0, .int .i64 a0_1, .int .i64 a0_2, .slice A0_3 l0_3.length c0_3], .int .i64 a1, .int .i64 x8_1] (by rfl) rfl rfl zq6 ?_); (with_reducible refine (spec_chPlaces.calls k1 a0_0 a0_1 a0_2 _ _ l0_3 a1 x8_1 t1455 _ ?side1 ?side2 A7.out).mono ?_); ((case side1 => exact zq10 HR0_3.out HB.out)); ((case side2 => exact HC0_3.out)); (rintro e w36 ⟨v1456, rfl, ho0, hb⟩); (refine ⟨_, rfl, ?_⟩); (have n0_ := Aside0.mk (Kd.R_lower ho0 (below_size (zq2 HB.out GE1453.out)))); (have n1_ := Aside0.mk (zB BK1453.out hb)); (have n2_ := Aside0.mk (below_step (zq2 HB.out GE1453.out) hb)); (clear BK1453); (clear HB); (have HO1457 := n0_); (have BK1453 := n1_); (have HB := n2_); (clear n0_ n1_ n2_); ((try clear hb)); ((try clear hb2)); ((try clear hk)); ((try clear hi)); ((try clear ho0)); (obtain ⟨Ao37, co37, eo37⟩ := Kd.R_slice HO1457.out); ((first | subst eo37 | (injection eo37 with f1_ f2_ f3_; have f4_ := f1_.symm; have f5_ := f3_.symm; clear f1_ f2_ f3_; subst f4_; subst f5_))); (have p1458 : 0 ≤ (a0_0 : Int) := of_decide_eq_true zq17); (have q1458 : a0_0 < (t1455.length : Int) := of_decide_eq_true zq17); (obtain ⟨ad1458, e1458, hx1458_0⟩ := Kd.at_int (Kd.R_reads' HO1457.out).2.2 a0_0 p1458 q1458); (cases e1458); (replace p1458 := eq_true p1458); (replace q1458 := eq_true q1458); (refine hK.out _ _ ⟨(blk_cell BK1453.out 0).trans rfl, (blk_cell BK1453.out 1).trans rfl, (blk_cell BK1453.out 2).trans rfl, (blk_cell BK1453.out 3).trans rfl⟩ (fun hHeld => ?_)); (clear hK K); (refine norm_ (a' := ?_) ?_ ?_); (rotate_left)
                  · show Act.put _ (some 20) _ = _
                    (simp only [Act.put, List.setIfInBounds_toArray, List.set_cons_zero, List.set_cons_succ, i64_w, i32_w]); (rfl)
                  (refine pure_ (i := 9) (N := some 23) (v := ?_) (a' := ?_) #[true, true, true, true, true, true, true, true, true, true, false, false, false] rfl rfl (any_of HT_.out (by kernel_rfl)) (fun _ _ _ h => h) (Or.inl ⟨by rfl, ?_⟩) ?_ ?_); (rotate_left)
                  · intro w'
                    (go_simp); (with_reducible rfl)
                  rotate_left
                  · simp only [Act.put, List.setIfInBounds_toArray, List.set_cons_zero, List.set_cons_succ, i64_w, i32_w]
                    rfl
                  (refine one_ (i := 10) (N := some 24) #[true, true, true, true, true, true, true, true, true, true, true, false, false] rfl rfl (one_of HT_.out (by kernel_rfl)) (by decide) (fun K hK => ?_)); (refine value_ (w1 := ?_) (v := ?_) (by rfl) rfl ?_ ?_); (rotate_left 2)
                  · go_simp
                    constructor
                    · rfl
                    · rfl
                  (refine hK.out _ _ ⟨hHeld.1, hHeld.2.1, hHeld.2.2.1, hHeld.2.2.2⟩ (fun hHeld => ?_)); (clear hK K); (refine norm_ (a' := ?_) ?_ ?_); (rotate_left)
                  · show Act.put _ (some 24) _ = _
                    (simp only [Act.put, List.setIfInBounds_toArray, List.set_cons_zero, List.set_cons_succ, i64_w, i32_w]); (rfl)
                  (refine pure_ (i := 11) (N := some 25) (v := ?_) (a' := ?_) #[true, true, true, true, true, true, true, true, true, true, true, true, false] rfl rfl (any_of HT_.out (by kernel_rfl)) (fun _ _ _ h => h) (Or.inl ⟨by rfl, ?_⟩) ?_ ?_); (rotate_left)
                  · intro w'
                    (go_simp); (with_reducible rfl)
                  rotate_left
                  · simp only [Act.put, List.setIfInBounds_toArray, List.set_cons_zero, List.set_cons_succ, i64_w, i32_w]
                    rfl
                  (refine pure_ (i := 12) (N := some 9) (v := ?_) (a' := ?_) #[true, true, true, true, true, true, true, true, true, true, true, true, true] rfl rfl (any_of HT_.out (by kernel_rfl)) (fun _ _ _ h => h) (Or.inl ⟨by rfl, ?_⟩) ?_ ?_); (rotate_left)
                  · intro w'
                    (go_simp); (with_reducible rfl)
                  rotate_left
                  · simp only [Act.put, List.setIfInBounds_toArray, List.set_cons_zero, List.set_cons_succ, i64_w, i32_w]
                    rfl
                  (refine done_ (done_of HT_.out (by kernel_rfl)) ?_); (obtain ⟨hcz38_0, hcz38_1, hcz38_2, hcz38_3, hfz38_0, hfz38_1, hfz38_2, hfz38_3⟩ := bk4_ BK1453.out); (try go_wp2_with (first | ((with_reducible refine gate_callee (f := 225) rfl ?_); refine goesL_ (some 29) rfl rfl Try.func225 (by kernel_rfl) rfl #[.agg #[.int .i64 a0_0, .int .i64 a0_1, .int .i64 a0_2, .slice A0_3 l0_3.length c0_3], .int .i64 x8_1] rfl zq6 ?_; (with_reducible refine (spec_chAll.calls k1 a0_0 a0_1 a0_2 _ _ l0_3 x8_1 t1459 _ ?side1 ?side2 A10.out).mono ?_); (case side1 => exact zq10 HR0_3.out HB.out); (case side2 => exact HC0_3.out); rintro e w39 ⟨rfl, hb⟩; refine ⟨_, rfl, ?_⟩; replace HO1457 := Aside0.mk (Kd.R_below (zq3 HO1457.out) hb); replace BK1453 := Aside0.mk (zB BK1453.out hb); replace HB := Aside0.mk (below_step (zq2 HB.out GE1453.out) hb); (try clear hb); (try clear hb2); (try clear hk); (try clear hi)))); (go_ret2); (exact ⟨zq16, zq2 HB.out GE1453.out⟩)
                · rw [if_neg c33] at H
                  (have c33b0 : ((wrap64 (t1454 - (rd t1455 a0_0))) == 0) = false := beq_eq_false_iff_ne.mpr c33); (have c33b1 : ((wrap64 (t1454 - (rd t1455 a0_0))) != 0) = true := bne_iff_ne.mpr c33); (have H' := Aside0.mk H); (clear H); (try go_wp2); (have n0_ := Aside0.mk (blk_drew BK1453.out)); (have n1_ := Aside0.mk (below_drew1 HB.out)); (clear BK1453); (clear HB); (have BK1453 := n0_); (have HB := n1_); (clear n0_ n1_); (refine start_ (n := 13) (S := fun w' => w'.cell? ⟨gb1453, 0, none⟩ = some (.int .i64 a0_0) ∧ w'.cell? ⟨gb1453, 1, none⟩ = some (.int .i64 a0_1) ∧ w'.cell? ⟨gb1453, 2, none⟩ = some (.int .i64 a0_2) ∧ w'.cell? ⟨gb1453, 3, none⟩ = some (.slice A0_3 l0_3.length c0_3)) (ds := []) #[false, false, false, false, false, false, false, false, false, false, false, false, false] (by kernel_rfl) rfl rfl ⟨(blk_cell BK1453.out 0).trans rfl, (blk_cell BK1453.out 1).trans rfl, (blk_cell BK1453.out 2).trans rfl, (blk_cell BK1453.out 3).trans rfl⟩ (fun hHeld => ?_); refine with_tabW spec_chUntil.tab4 spec_chUntil.bits4 (fun HT_ HW_ => ?_)); (generalize wr.drew = w40 at BK1453 HB hHeld ⊢); (refine pure_ (i := 1) (N := some 15) (v := ?_) (a' := ?_) #[false, true, false, false, false, false, false, false, false, false, false, false, false] rfl rfl (any_of HT_.out (by kernel_rfl)) (fun _ _ _ h => h) (Or.inl ⟨by rfl, ?_⟩) ?_ ?_); (rotate_left)
                  · intro w'
                    (go_simp); (with_reducible rfl)
                  rotate_left
                  · simp only [Act.put, List.setIfInBounds_toArray, List.set_cons_zero, List.set_cons_succ, i64_w, i32_w]
                    rfl
                  (refine pure_ (i := 4) (N := some 18) (v := ?_) (a' := ?_) #[false, true, false, false, true, false, false, false, false, false, false, false, false] rfl rfl (any_of HT_.out (by kernel_rfl)) (fun _ _ _ h => h) (Or.inl ⟨by rfl, ?_⟩) ?_ ?_); (rotate_left)
                  · intro w'
                    (go_simp); (with_reducible rfl)
                  rotate_left
                  · simp only [Act.put, List.setIfInBounds_toArray, List.set_cons_zero, List.set_cons_succ, i64_w, i32_w]
                    rfl
                  (refine pure_ (i := 5) (N := some 19) (v := ?_) (a' := ?_) #[false, true, false, false, true, true, false, false, false, false, false, false, false] rfl rfl (any_of HT_.out (by kernel_rfl)) (fun _ _ _ h => h) (Or.inl ⟨by rfl, ?_⟩) ?_ ?_); (rotate_left)
                  · intro w'
                    (go_simp); (with_reducible rfl)
                  rotate_left
                  · simp only [Act.put, List.setIfInBounds_toArray, List.set_cons_zero, List.set_cons_succ, i64_w, i32_w]
                    rfl
                  (refine pure_ (i := 7) (N := some 21) (v := ?_) (a' := ?_) #[false, true, false, false, true, true, false, true, false, false, false, false, false] rfl rfl (any_of HT_.out (by kernel_rfl)) (fun _ _ _ h => h) (Or.inl ⟨by rfl, ?_⟩) ?_ ?_); (rotate_left)
                  · intro w'
                    (go_simp); (with_reducible rfl)
                  rotate_left
                  · simp only [Act.put, List.setIfInBounds_toArray, List.set_cons_zero, List.set_cons_succ, i64_w, i32_w]
                    rfl
                  (refine take_ (i := 0) (N := some 14) (v := ?_) (a' := ?_) #[true, true, false, false, true, true, false, true, false, false, false, false, false] rfl rfl (take_ofW HT_.out HW_.out (by kernel_rfl)) (fun _ _ _ h => h) (Or.inl ⟨by rfl, ?_⟩) hHeld ?_ ?_); (rotate_left)
                  · rintro w' ⟨s0, s1, s2, s3⟩
                    (go_simp); (with_reducible rfl)
                  rotate_left
                  · simp only [Act.put, List.setIfInBounds_toArray, List.set_cons_zero, List.set_cons_succ, i64_w, i32_w]
                    rfl
                  (refine take_ (i := 3) (N := some 17) (v := ?_) (a' := ?_) #[true, true, false, true, true, true, false, true, false, false, false, false, false] rfl rfl (take_ofW HT_.out HW_.out (by kernel_rfl)) (fun _ _ _ h => h) (Or.inl ⟨by rfl, ?_⟩) hHeld ?_ ?_); (rotate_left)
                  · rintro w' ⟨s0, s1, s2, s3⟩
                    (go_simp); (with_reducible rfl)
                  rotate_left
                  · simp only [Act.put, List.setIfInBounds_toArray, List.set_cons_zero, List.set_cons_succ, i64_w, i32_w]
                    rfl
                  (refine take_ (i := 8) (N := some 22) (v := ?_) (a' := ?_) #[true, true, false, true, true, true, false, true, true, false, false, false, false] rfl rfl (take_ofW HT_.out HW_.out (by kernel_rfl)) (fun _ _ _ h => h) (Or.inl ⟨by rfl, ?_⟩) hHeld ?_ ?_); (rotate_left)
                  · rintro w' ⟨s0, s1, s2, s3⟩
                    (go_simp); (with_reducible rfl)
                  rotate_left
                  · simp only [Act.put, List.setIfInBounds_toArray, List.set_cons_zero, List.set_cons_succ, i64_w, i32_w]
                    rfl
                  (refine one_ (i := 2) (N := some 16) #[true, true, true, true, true, true, false, true, true, false, false, false, false] rfl rfl (one_of HT_.out (by kernel_rfl)) (by decide) (fun K hK => ?_)); (refine goes_ Try.func225 (by kernel_rfl) rfl #[.agg #[.int .i64 a0_0, .int .i64 a0_1, .int .i64 a0_2, .slice A0_3 l0_3.length c0_3], .int .i64 x8_1] (by rfl) rfl rfl zq6 ?_); (with_reducible refine (spec_chAll.calls k1 a0_0 a0_1 a0_2 _ _ l0_3 x8_1 t1454 _ ?side1 ?side2 A6.out).mono ?_); ((case side1 => exact zq10 HR0_3.out HB.out)); ((case side2 => exact HC0_3.out)); (rintro e w41 ⟨rfl, hb⟩); (refine ⟨_, rfl, ?_⟩); (have n0_ := Aside0.mk (zB BK1453.out hb)); (have n1_ := Aside0.mk (below_step (zq2 HB.out GE1453.out) hb)); (clear BK1453); (clear HB); (have BK1453 := n0_); (have HB := n1_); (clear n0_ n1_); ((try clear hb)); ((try clear hb2)); ((try clear hk)); ((try clear hi)); (refine hK.out _ _ ⟨(blk_cell BK1453.out 0).trans rfl, (blk_cell BK1453.out 1).trans rfl, (blk_cell BK1453.out 2).trans rfl, (blk_cell BK1453.out 3).trans rfl⟩ (fun hHeld => ?_)); (clear hK K); (refine norm_ (a' := ?_) ?_ ?_); (rotate_left)
                  · show Act.put _ (some 16) _ = _
                    (simp only [Act.put, List.setIfInBounds_toArray, List.set_cons_zero, List.set_cons_succ, i64_w, i32_w]); (rfl)
                  (refine one_ (i := 6) (N := some 20) #[true, true, true, true, true, true, true, true, true, false, false, false, false] rfl rfl (one_of HT_.out (by kernel_rfl)) (by decide) (fun K hK => ?_)); (refine goes_ Try.func228 (by kernel_rfl) rfl #[.agg #[.int .i64 a0_0, .int .i64 a0_1, .int .i64 a0_2, .slice A0_3 l0_3.length c0_3], .int .i64 a1, .int .i64 x8_1] (by rfl) rfl rfl zq6 ?_); (with_reducible refine (spec_chPlaces.calls k1 a0_0 a0_1 a0_2 _ _ l0_3 a1 x8_1 t1455 _ ?side1 ?side2 A7.out).mono ?_); ((case side1 => exact zq10 HR0_3.out HB.out)); ((case side2 => exact HC0_3.out)); (rintro e w42 ⟨v1456, rfl, ho0, hb⟩); (refine ⟨_, rfl, ?_⟩); (have n0_ := Aside0.mk (Kd.R_lower ho0 (below_size (zq2 HB.out GE1453.out)))); (have n1_ := Aside0.mk (zB BK1453.out hb)); (have n2_ := Aside0.mk (below_step (zq2 HB.out GE1453.out) hb)); (clear BK1453); (clear HB); (have HO1457 := n0_); (have BK1453 := n1_); (have HB := n2_); (clear n0_ n1_ n2_); ((try clear hb)); ((try clear hb2)); ((try clear hk)); ((try clear hi)); ((try clear ho0)); (obtain ⟨Ao43, co43, eo43⟩ := Kd.R_slice HO1457.out); ((first | subst eo43 | (injection eo43 with f1_ f2_ f3_; have f4_ := f1_.symm; have f5_ := f3_.symm; clear f1_ f2_ f3_; subst f4_; subst f5_))); (have p1458 : 0 ≤ (a0_0 : Int) := of_decide_eq_true zq17); (have q1458 : a0_0 < (t1455.length : Int) := of_decide_eq_true zq17); (obtain ⟨ad1458, e1458, hx1458_0⟩ := Kd.at_int (Kd.R_reads' HO1457.out).2.2 a0_0 p1458 q1458); (cases e1458); (replace p1458 := eq_true p1458); (replace q1458 := eq_true q1458); (refine hK.out _ _ ⟨(blk_cell BK1453.out 0).trans rfl, (blk_cell BK1453.out 1).trans rfl, (blk_cell BK1453.out 2).trans rfl, (blk_cell BK1453.out 3).trans rfl⟩ (fun hHeld => ?_)); (clear hK K); (refine norm_ (a' := ?_) ?_ ?_); (rotate_left)
                  · show Act.put _ (some 20) _ = _
                    (simp only [Act.put, List.setIfInBounds_toArray, List.set_cons_zero, List.set_cons_succ, i64_w, i32_w]); (rfl)
                  (refine pure_ (i := 9) (N := some 23) (v := ?_) (a' := ?_) #[true, true, true, true, true, true, true, true, true, true, false, false, false] rfl rfl (any_of HT_.out (by kernel_rfl)) (fun _ _ _ h => h) (Or.inl ⟨by rfl, ?_⟩) ?_ ?_); (rotate_left)
                  · intro w'
                    (go_simp); (with_reducible rfl)
                  rotate_left
                  · simp only [Act.put, List.setIfInBounds_toArray, List.set_cons_zero, List.set_cons_succ, i64_w, i32_w]
                    rfl
                  (refine one_ (i := 10) (N := some 24) #[true, true, true, true, true, true, true, true, true, true, true, false, false] rfl rfl (one_of HT_.out (by kernel_rfl)) (by decide) (fun K hK => ?_)); (refine value_ (w1 := ?_) (v := ?_) (by rfl) rfl ?_ ?_); (rotate_left 2)
                  · go_simp
                    constructor
                    · rfl
                    · rfl
                  (refine hK.out _ _ ⟨hHeld.1, hHeld.2.1, hHeld.2.2.1, hHeld.2.2.2⟩ (fun hHeld => ?_)); (clear hK K); (refine norm_ (a' := ?_) ?_ ?_); (rotate_left)
                  · show Act.put _ (some 24) _ = _
                    (simp only [Act.put, List.setIfInBounds_toArray, List.set_cons_zero, List.set_cons_succ, i64_w, i32_w]); (rfl)
                  (refine pure_ (i := 11) (N := some 25) (v := ?_) (a' := ?_) #[true, true, true, true, true, true, true, true, true, true, true, true, false] rfl rfl (any_of HT_.out (by kernel_rfl)) (fun _ _ _ h => h) (Or.inl ⟨by rfl, ?_⟩) ?_ ?_); (rotate_left)
                  · intro w'
                    (go_simp); (with_reducible rfl)
                  rotate_left
                  · simp only [Act.put, List.setIfInBounds_toArray, List.set_cons_zero, List.set_cons_succ, i64_w, i32_w]
                    rfl
                  (refine pure_ (i := 12) (N := some 9) (v := ?_) (a' := ?_) #[true, true, true, true, true, true, true, true, true, true, true, true, true] rfl rfl (any_of HT_.out (by kernel_rfl)) (fun _ _ _ h => h) (Or.inl ⟨by rfl, ?_⟩) ?_ ?_); (rotate_left)
                  · intro w'
                    (go_simp); (with_reducible rfl)
                  rotate_left
                  · simp only [Act.put, List.setIfInBounds_toArray, List.set_cons_zero, List.set_cons_succ, i64_w, i32_w]
                    rfl
                  (refine done_ (done_of HT_.out (by kernel_rfl)) ?_); (obtain ⟨hcz44_0, hcz44_1, hcz44_2, hcz44_3, hfz44_0, hfz44_1, hfz44_2, hfz44_3⟩ := bk4_ BK1453.out); (try go_wp2_with (first | ((with_reducible refine gate_callee (f := 225) rfl ?_); refine goesL_ (some 29) rfl rfl Try.func225 (by kernel_rfl) rfl #[.agg #[.int .i64 a0_0, .int .i64 a0_1, .int .i64 a0_2, .slice A0_3 l0_3.length c0_3], .int .i64 x8_1] rfl zq6 ?_; (with_reducible refine (spec_chAll.calls k1 a0_0 a0_1 a0_2 _ _ l0_3 x8_1 t1459 _ ?side1 ?side2 A10.out).mono ?_); (case side1 => exact zq10 HR0_3.out HB.out); (case side2 => exact HC0_3.out); rintro e w45 ⟨rfl, hb⟩; refine ⟨_, rfl, ?_⟩; replace HO1457 := Aside0.mk (Kd.R_below (zq3 HO1457.out) hb); replace BK1453 := Aside0.mk (zB BK1453.out hb); replace HB := Aside0.mk (below_step (zq2 HB.out GE1453.out) hb); (try clear hb); (try clear hb2); (try clear hk); (try clear hi)))); (go_roundg k1)
                  case measure => have := HK1.out; omega
                  case rel => exact ⟨(wrap64 (x8_1 + 1)), zq25, H', ⟨by have := HK1.out; omega⟩, ⟨zq1 BK1453.out⟩, ⟨zq2 HB.out GE1453.out⟩⟩
          · rw [if_neg c9] at H
            exact absurd H (by simp)
        · rw [if_neg c8] at H
          exact absurd H (by simp)
      · rw [if_neg c5] at H
        (have c5b0 : decide (x8_1 ≤ 20) = false := decide_eq_false c5); (clear c5); (simp only [Option.some.injEq, Prod.mk.injEq] at H); (obtain ⟨rfl, rfl⟩ := H); (go_wp2); (go_ret2); (exact ⟨zq16, zq2 HB.out GE1453.out⟩)
end

section
def spec_HalfDone.f (k : Nat) (a0_0 : Int) (a0_1 : Int) (a0_2 : Int) (l0_3 : List (S126)) (a1 : Int) : Option (Int × Bool) := (spec_sqAsked.f a0_0 a0_1 a0_2 l0_3 a1).bind fun t1461 => (if t1461 = true then ((spec_chUntil.f k a0_0 a0_1 a0_2 l0_3 a1 2).bind fun bt1462 => (some (bt1462.1, bt1462.2))) else (some (0, false)))
theorem spec_HalfDone.mono : ∀ a0 a1 a2 a3 a4 k, LeO (spec_HalfDone.f k a0 a1 a2 a3 a4) (spec_HalfDone.f (k + 1) a0 a1 a2 a3 a4) := by
  (intro a0 a1 a2 a3 a4 k); (unfold spec_HalfDone.f); (exact zq81)
set_option maxHeartbeats 8000000 in
set_option maxRecDepth 100000 in
theorem spec_HalfDone.calls (k : Nat) (a0_0 : Int) (a0_1 : Int) (a0_2 : Int) (A0_3 : Option Addr) (c0_3 : Nat) (l0_3 : List (S126)) (a1 : Int) (r1 : Int) (r2 : Bool) (w : World) (hr0_3 : Kd.C k126 w A0_3 l0_3.length l0_3) (hc0_3 : l0_3.length ≤ c0_3) (h : spec_HalfDone.f k a0_0 a0_1 a0_2 l0_3 a1 = some (r1, r2)) :
    Calls Try.prog 94 #[.agg #[.int .i64 a0_0, .int .i64 a0_1, .int .i64 a0_2, .slice A0_3 l0_3.length c0_3], .int .i64 a1] w fun e w' => e = .returned (.tuple #[.int .i64 r1, .bool r2]) ∧ Below w.heap.size w w' := by
  (have hu31 := Try.underlying31); (have HR0_3 := Aside0.mk hr0_3); (have HC0_3 := Aside0.mk hc0_3); (clear hr0_3 hc0_3); (have HB := Aside0.mk (Below.refl w.heap.size w)); (have H : ((spec_sqAsked.f a0_0 a0_1 a0_2 l0_3 a1).bind fun t1461 => (if t1461 = true then ((spec_chUntil.f k a0_0 a0_1 a0_2 l0_3 a1 2).bind fun bt1462 => (some (bt1462.1, bt1462.2))) else (some (0, false)))) = some (r1, r2) := h); (clear h); (replace H := Option.bind_eq_some_iff.mp H); (obtain ⟨t1461, A30, H⟩ := H); (replace H : (if t1461 = true then ((spec_chUntil.f k a0_0 a0_1 a0_2 l0_3 a1 2).bind fun bt1462 => (some (bt1462.1, bt1462.2))) else (some (0, false))) = some (r1, r2) := H); (have A3 := Aside0.mk A30); (clear A30); (by_cases c4 : t1461 = true)
  · subst c4
    (have H1 : ((spec_chUntil.f k a0_0 a0_1 a0_2 l0_3 a1 2).bind fun bt1462 => (some (bt1462.1, bt1462.2))) = some (r1, r2) := by rw [if_pos rfl] at H; exact H); (clear H); (have H := H1); (clear H1); (replace H := Option.bind_eq_some_iff.mp H); (obtain ⟨⟨t1462, t1463⟩, A50, H⟩ := H); (replace H : (some (t1462, t1463)) = some (r1, r2) := H); (have A5 := Aside0.mk A50); (clear A50); (simp only [Option.some.injEq, Prod.mk.injEq] at H); (obtain ⟨rfl, rfl⟩ := H); (go_enter Try.func94, Try.ntmps94); (go_wp2_with (first | ((with_reducible refine gate_dst (N := 2) rfl ?_); refine box_event ?hg (N := 2) ?hd (cs := #[.int .i64 a0_0, .int .i64 a0_1, .int .i64 a0_2, .slice A0_3 l0_3.length c0_3]) (t := 31) ?hr ?_; (case hd => rfl); (case hg => rfl); (case hr => exact zq19); intro gb1460 hg w6 hbox hb; have BK1460 := Aside0.mk (hbox); have GW1460 := Aside0.mk ((zq8 HB.out : w.heap.size ≤ gb1460)); have GE1460 := Aside0.mk ((zq8 HB.out : w.heap.size ≤ gb1460)); replace HB := Aside0.mk (below_step (zq15 HB.out) hb); clear hb hbox hg; obtain ⟨hcz7_0, hcz7_1, hcz7_2, hcz7_3, hfz7_0, hfz7_1, hfz7_2, hfz7_3⟩ := bk4_ BK1460.out) | ((with_reducible refine gate_callee (f := 231) rfl ?_); refine goesL_ (some 8) rfl rfl Try.func231 (by kernel_rfl) rfl #[.agg #[.int .i64 a0_0, .int .i64 a0_1, .int .i64 a0_2, .slice A0_3 l0_3.length c0_3], .int .i64 a1] rfl zq6 ?_; (with_reducible refine (spec_sqAsked.calls a0_0 a0_1 a0_2 _ _ l0_3 a1 true _ ?side1 ?side2 A3.out).mono ?_); (case side1 => exact zq10 HR0_3.out HB.out); (case side2 => exact HC0_3.out); rintro e w8 ⟨rfl, hb⟩; refine ⟨_, rfl, ?_⟩; replace BK1460 := Aside0.mk (zB BK1460.out hb); replace HB := Aside0.mk (below_step (zq2 HB.out GE1460.out) hb); (try clear hb); (try clear hb2); (try clear hk); (try clear hi); obtain ⟨hcz9_0, hcz9_1, hcz9_2, hcz9_3, hfz9_0, hfz9_1, hfz9_2, hfz9_3⟩ := bk4_ BK1460.out) | ((with_reducible refine gate_callee (f := 232) rfl ?_); refine goesL_ (some 12) rfl rfl Try.func232 (by kernel_rfl) rfl #[.agg #[.int .i64 a0_0, .int .i64 a0_1, .int .i64 a0_2, .slice A0_3 l0_3.length c0_3], .int .i64 a1, .int .i64 2] rfl zq6 ?_; (with_reducible refine (spec_chUntil.calls k a0_0 a0_1 a0_2 _ _ l0_3 a1 2 t1462 t1463 _ ?side1 ?side2 A5.out).mono ?_); (case side1 => exact zq10 HR0_3.out HB.out); (case side2 => exact HC0_3.out); rintro e w10 ⟨rfl, hb⟩; refine ⟨_, rfl, ?_⟩; replace BK1460 := Aside0.mk (zB BK1460.out hb); replace HB := Aside0.mk (below_step (zq2 HB.out GE1460.out) hb); (try clear hb); (try clear hb2); (try clear hk); (try clear hi)))); (go_ret2); (exact ⟨zq16, zq2 HB.out GE1460.out⟩)
  · replace c4 := Bool.eq_false_iff.mpr c4
    (subst c4); (have H1 : (some (0, false)) = some (r1, r2) := by rw [if_neg (show ¬ (false = true) by decide)] at H; exact H); (clear H); (have H := H1); (clear H1); (simp only [Option.some.injEq, Prod.mk.injEq] at H); (obtain ⟨rfl, rfl⟩ := H); (go_enter Try.func94, Try.ntmps94); (go_wp2_with (first | ((with_reducible refine gate_dst (N := 2) rfl ?_); refine box_event ?hg (N := 2) ?hd (cs := #[.int .i64 a0_0, .int .i64 a0_1, .int .i64 a0_2, .slice A0_3 l0_3.length c0_3]) (t := 31) ?hr ?_; (case hd => rfl); (case hg => rfl); (case hr => exact zq19); intro gb1460 hg w11 hbox hb; have BK1460 := Aside0.mk (hbox); have GW1460 := Aside0.mk ((zq8 HB.out : w.heap.size ≤ gb1460)); have GE1460 := Aside0.mk ((zq8 HB.out : w.heap.size ≤ gb1460)); replace HB := Aside0.mk (below_step (zq15 HB.out) hb); clear hb hbox hg; obtain ⟨hcz12_0, hcz12_1, hcz12_2, hcz12_3, hfz12_0, hfz12_1, hfz12_2, hfz12_3⟩ := bk4_ BK1460.out) | ((with_reducible refine gate_callee (f := 231) rfl ?_); refine goesL_ (some 8) rfl rfl Try.func231 (by kernel_rfl) rfl #[.agg #[.int .i64 a0_0, .int .i64 a0_1, .int .i64 a0_2, .slice A0_3 l0_3.length c0_3], .int .i64 a1] rfl zq6 ?_; (with_reducible refine (spec_sqAsked.calls a0_0 a0_1 a0_2 _ _ l0_3 a1 false _ ?side1 ?side2 A3.out).mono ?_); (case side1 => exact zq10 HR0_3.out HB.out); (case side2 => exact HC0_3.out); rintro e w13 ⟨rfl, hb⟩; refine ⟨_, rfl, ?_⟩; replace BK1460 := Aside0.mk (zB BK1460.out hb); replace HB := Aside0.mk (below_step (zq2 HB.out GE1460.out) hb); (try clear hb); (try clear hb2); (try clear hk); (try clear hi)))); (go_ret2); (exact ⟨zq16, zq2 HB.out GE1460.out⟩)
end

section
def impl_AllDone.f (k : Nat) (a0_0 : Int) (a0_1 : Int) (a0_2 : Int) (l0_3 : List (S126)) (a1 : Int) : Option (Int × Bool) := (impl_firstDone.f k a0_0 a0_1 a0_2 l0_3 a1 (.func (.func 233) #[] #[] : Value)).bind fun bt1465 => (some (bt1465.1, bt1465.2))
theorem impl_AllDone.mono : ∀ a0 a1 a2 a3 a4 k, LeO (impl_AllDone.f k a0 a1 a2 a3 a4) (impl_AllDone.f (k + 1) a0 a1 a2 a3 a4) := by
  (intro a0 a1 a2 a3 a4 k); (unfold impl_AllDone.f); (exact zq80)
set_option maxHeartbeats 8000000 in
set_option maxRecDepth 100000 in
theorem impl_AllDone.calls (k : Nat) (a0_0 : Int) (a0_1 : Int) (a0_2 : Int) (A0_3 : Option Addr) (c0_3 : Nat) (l0_3 : List (S126)) (a1 : Int) (r1 : Int) (r2 : Bool) (w : World) (hr0_3 : Kd.C k126 w A0_3 l0_3.length l0_3) (hc0_3 : l0_3.length ≤ c0_3) (h : impl_AllDone.f k a0_0 a0_1 a0_2 l0_3 a1 = some (r1, r2)) :
    Calls Try.prog 95 #[.agg #[.int .i64 a0_0, .int .i64 a0_1, .int .i64 a0_2, .slice A0_3 l0_3.length c0_3], .int .i64 a1] w fun e w' => e = .returned (.tuple #[.int .i64 r1, .bool r2]) ∧ Below w.heap.size w w' := by
  (have hu31 := Try.underlying31); (have HR0_3 := Aside0.mk hr0_3); (have HC0_3 := Aside0.mk hc0_3); (clear hr0_3 hc0_3); (have HB := Aside0.mk (Below.refl w.heap.size w)); (have H : ((impl_firstDone.f k a0_0 a0_1 a0_2 l0_3 a1 (.func (.func 233) #[] #[] : Value)).bind fun bt1465 => (some (bt1465.1, bt1465.2))) = some (r1, r2) := h); (clear h); (replace H := Option.bind_eq_some_iff.mp H); (obtain ⟨⟨t1465, t1466⟩, A30, H⟩ := H); (replace H : (some (t1465, t1466)) = some (r1, r2) := H); (have A3 := Aside0.mk A30); (clear A30); (simp only [Option.some.injEq, Prod.mk.injEq] at H); (obtain ⟨rfl, rfl⟩ := H); (go_enter Try.func95, Try.ntmps95); (go_wp2_with (first | ((with_reducible refine gate_dst (N := 2) rfl ?_); refine box_event ?hg (N := 2) ?hd (cs := #[.int .i64 a0_0, .int .i64 a0_1, .int .i64 a0_2, .slice A0_3 l0_3.length c0_3]) (t := 31) ?hr ?_; (case hd => rfl); (case hg => rfl); (case hr => exact zq19); intro gb1464 hg w4 hbox hb; have BK1464 := Aside0.mk (hbox); have GW1464 := Aside0.mk ((zq8 HB.out : w.heap.size ≤ gb1464)); have GE1464 := Aside0.mk ((zq8 HB.out : w.heap.size ≤ gb1464)); replace HB := Aside0.mk (below_step (zq15 HB.out) hb); clear hb hbox hg; obtain ⟨hcz5_0, hcz5_1, hcz5_2, hcz5_3, hfz5_0, hfz5_1, hfz5_2, hfz5_3⟩ := bk4_ BK1464.out) | ((with_reducible refine gate_callee (f := 229) rfl ?_); refine goesL_ (some 8) rfl rfl Try.func229 (by kernel_rfl) rfl #[.agg #[.int .i64 a0_0, .int .i64 a0_1, .int .i64 a0_2, .slice A0_3 l0_3.length c0_3], .int .i64 a1, (.func (.func 233) #[] #[] : Value)] rfl zq6 ?_; (with_reducible refine (impl_firstDone.calls k a0_0 a0_1 a0_2 _ _ l0_3 a1 (.func (.func 233) #[] #[] : Value) t1465 t1466 _ ?side1 ?side2 A3.out).mono ?_); (case side1 => exact zq10 HR0_3.out HB.out); (case side2 => exact HC0_3.out); rintro e w6 ⟨rfl, hb⟩; refine ⟨_, rfl, ?_⟩; replace BK1464 := Aside0.mk (zB BK1464.out hb); replace HB := Aside0.mk (below_step (zq2 HB.out GE1464.out) hb); (try clear hb); (try clear hb2); (try clear hk); (try clear hi)))); (go_ret2); (exact ⟨zq16, zq2 HB.out GE1464.out⟩)
end

section
def spec_AllDone.f (k : Nat) (a0_0 : Int) (a0_1 : Int) (a0_2 : Int) (l0_3 : List (S126)) (a1 : Int) : Option (Int × Bool) := (spec_sqAsked.f a0_0 a0_1 a0_2 l0_3 a1).bind fun t1468 => (if t1468 = true then ((spec_chUntil.f k a0_0 a0_1 a0_2 l0_3 a1 1).bind fun bt1469 => (some (bt1469.1, bt1469.2))) else (some (0, false)))
theorem spec_AllDone.mono : ∀ a0 a1 a2 a3 a4 k, LeO (spec_AllDone.f k a0 a1 a2 a3 a4) (spec_AllDone.f (k + 1) a0 a1 a2 a3 a4) := by
  (intro a0 a1 a2 a3 a4 k); (unfold spec_AllDone.f); (exact zq81)
set_option maxHeartbeats 8000000 in
set_option maxRecDepth 100000 in
theorem spec_AllDone.calls (k : Nat) (a0_0 : Int) (a0_1 : Int) (a0_2 : Int) (A0_3 : Option Addr) (c0_3 : Nat) (l0_3 : List (S126)) (a1 : Int) (r1 : Int) (r2 : Bool) (w : World) (hr0_3 : Kd.C k126 w A0_3 l0_3.length l0_3) (hc0_3 : l0_3.length ≤ c0_3) (h : spec_AllDone.f k a0_0 a0_1 a0_2 l0_3 a1 = some (r1, r2)) :
    Calls Try.prog 96 #[.agg #[.int .i64 a0_0, .int .i64 a0_1, .int .i64 a0_2, .slice A0_3 l0_3.length c0_3], .int .i64 a1] w fun e w' => e = .returned (.tuple #[.int .i64 r1, .bool r2]) ∧ Below w.heap.size w w' := by
  (have hu31 := Try.underlying31); (have HR0_3 := Aside0.mk hr0_3); (have HC0_3 := Aside0.mk hc0_3); (clear hr0_3 hc0_3); (have HB := Aside0.mk (Below.refl w.heap.size w)); (have H : ((spec_sqAsked.f a0_0 a0_1 a0_2 l0_3 a1).bind fun t1468 => (if t1468 = true then ((spec_chUntil.f k a0_0 a0_1 a0_2 l0_3 a1 1).bind fun bt1469 => (some (bt1469.1, bt1469.2))) else (some (0, false)))) = some (r1, r2) := h); (clear h); (replace H := Option.bind_eq_some_iff.mp H); (obtain ⟨t1468, A30, H⟩ := H); (replace H : (if t1468 = true then ((spec_chUntil.f k a0_0 a0_1 a0_2 l0_3 a1 1).bind fun bt1469 => (some (bt1469.1, bt1469.2))) else (some (0, false))) = some (r1, r2) := H); (have A3 := Aside0.mk A30); (clear A30); (by_cases c4 : t1468 = true)
  · subst c4
    (have H1 : ((spec_chUntil.f k a0_0 a0_1 a0_2 l0_3 a1 1).bind fun bt1469 => (some (bt1469.1, bt1469.2))) = some (r1, r2) := by rw [if_pos rfl] at H; exact H); (clear H); (have H := H1); (clear H1); (replace H := Option.bind_eq_some_iff.mp H); (obtain ⟨⟨t1469, t1470⟩, A50, H⟩ := H); (replace H : (some (t1469, t1470)) = some (r1, r2) := H); (have A5 := Aside0.mk A50); (clear A50); (simp only [Option.some.injEq, Prod.mk.injEq] at H); (obtain ⟨rfl, rfl⟩ := H); (go_enter Try.func96, Try.ntmps96); (go_wp2_with (first | ((with_reducible refine gate_dst (N := 2) rfl ?_); refine box_event ?hg (N := 2) ?hd (cs := #[.int .i64 a0_0, .int .i64 a0_1, .int .i64 a0_2, .slice A0_3 l0_3.length c0_3]) (t := 31) ?hr ?_; (case hd => rfl); (case hg => rfl); (case hr => exact zq19); intro gb1467 hg w6 hbox hb; have BK1467 := Aside0.mk (hbox); have GW1467 := Aside0.mk ((zq8 HB.out : w.heap.size ≤ gb1467)); have GE1467 := Aside0.mk ((zq8 HB.out : w.heap.size ≤ gb1467)); replace HB := Aside0.mk (below_step (zq15 HB.out) hb); clear hb hbox hg; obtain ⟨hcz7_0, hcz7_1, hcz7_2, hcz7_3, hfz7_0, hfz7_1, hfz7_2, hfz7_3⟩ := bk4_ BK1467.out) | ((with_reducible refine gate_callee (f := 231) rfl ?_); refine goesL_ (some 8) rfl rfl Try.func231 (by kernel_rfl) rfl #[.agg #[.int .i64 a0_0, .int .i64 a0_1, .int .i64 a0_2, .slice A0_3 l0_3.length c0_3], .int .i64 a1] rfl zq6 ?_; (with_reducible refine (spec_sqAsked.calls a0_0 a0_1 a0_2 _ _ l0_3 a1 true _ ?side1 ?side2 A3.out).mono ?_); (case side1 => exact zq10 HR0_3.out HB.out); (case side2 => exact HC0_3.out); rintro e w8 ⟨rfl, hb⟩; refine ⟨_, rfl, ?_⟩; replace BK1467 := Aside0.mk (zB BK1467.out hb); replace HB := Aside0.mk (below_step (zq2 HB.out GE1467.out) hb); (try clear hb); (try clear hb2); (try clear hk); (try clear hi); obtain ⟨hcz9_0, hcz9_1, hcz9_2, hcz9_3, hfz9_0, hfz9_1, hfz9_2, hfz9_3⟩ := bk4_ BK1467.out) | ((with_reducible refine gate_callee (f := 232) rfl ?_); refine goesL_ (some 12) rfl rfl Try.func232 (by kernel_rfl) rfl #[.agg #[.int .i64 a0_0, .int .i64 a0_1, .int .i64 a0_2, .slice A0_3 l0_3.length c0_3], .int .i64 a1, .int .i64 1] rfl zq6 ?_; (with_reducible refine (spec_chUntil.calls k a0_0 a0_1 a0_2 _ _ l0_3 a1 1 t1469 t1470 _ ?side1 ?side2 A5.out).mono ?_); (case side1 => exact zq10 HR0_3.out HB.out); (case side2 => exact HC0_3.out); rintro e w10 ⟨rfl, hb⟩; refine ⟨_, rfl, ?_⟩; replace BK1467 := Aside0.mk (zB BK1467.out hb); replace HB := Aside0.mk (below_step (zq2 HB.out GE1467.out) hb); (try clear hb); (try clear hb2); (try clear hk); (try clear hi)))); (go_ret2); (exact ⟨zq16, zq2 HB.out GE1467.out⟩)
  · replace c4 := Bool.eq_false_iff.mpr c4
    (subst c4); (have H1 : (some (0, false)) = some (r1, r2) := by rw [if_neg (show ¬ (false = true) by decide)] at H; exact H); (clear H); (have H := H1); (clear H1); (simp only [Option.some.injEq, Prod.mk.injEq] at H); (obtain ⟨rfl, rfl⟩ := H); (go_enter Try.func96, Try.ntmps96); (go_wp2_with (first | ((with_reducible refine gate_dst (N := 2) rfl ?_); refine box_event ?hg (N := 2) ?hd (cs := #[.int .i64 a0_0, .int .i64 a0_1, .int .i64 a0_2, .slice A0_3 l0_3.length c0_3]) (t := 31) ?hr ?_; (case hd => rfl); (case hg => rfl); (case hr => exact zq19); intro gb1467 hg w11 hbox hb; have BK1467 := Aside0.mk (hbox); have GW1467 := Aside0.mk ((zq8 HB.out : w.heap.size ≤ gb1467)); have GE1467 := Aside0.mk ((zq8 HB.out : w.heap.size ≤ gb1467)); replace HB := Aside0.mk (below_step (zq15 HB.out) hb); clear hb hbox hg; obtain ⟨hcz12_0, hcz12_1, hcz12_2, hcz12_3, hfz12_0, hfz12_1, hfz12_2, hfz12_3⟩ := bk4_ BK1467.out) | ((with_reducible refine gate_callee (f := 231) rfl ?_); refine goesL_ (some 8) rfl rfl Try.func231 (by kernel_rfl) rfl #[.agg #[.int .i64 a0_0, .int .i64 a0_1, .int .i64 a0_2, .slice A0_3 l0_3.length c0_3], .int .i64 a1] rfl zq6 ?_; (with_reducible refine (spec_sqAsked.calls a0_0 a0_1 a0_2 _ _ l0_3 a1 false _ ?side1 ?side2 A3.out).mono ?_); (case side1 => exact zq10 HR0_3.out HB.out); (case side2 => exact HC0_3.out); rintro e w13 ⟨rfl, hb⟩; refine ⟨_, rfl, ?_⟩; replace BK1467 := Aside0.mk (zB BK1467.out hb); replace HB := Aside0.mk (below_step (zq2 HB.out GE1467.out) hb); (try clear hb); (try clear hb2); (try clear hk); (try clear hi)))); (go_ret2); (exact ⟨zq16, zq2 HB.out GE1467.out⟩)
end

section
def impl_PartDone.f (k : Nat) (a0_0 : Int) (a0_1 : Int) (a0_2 : Int) (l0_3 : List (S126)) (a1 : Int) (a2 : Int) : Option (Int × Int × Bool) := (impl_isThrown.f a0_0 a0_1 a0_2 l0_3 a2 20 (([a1] : List Int))).bind fun t1475 => (if t1475 = true then ((impl_Board_places.f k a0_0 a0_1 a0_2 l0_3 a1 a2).bind fun t1476 => (if 0 ≤ a0_0 then (if a0_0 < (t1476.length : Int) then ((impl_Board_part.f k a0_0 a0_1 a0_2 l0_3 (rd t1476 a0_0) a2).bind fun bt1480 => (some (bt1480.1, bt1480.2.1, bt1480.2.2))) else (none)) else (none))) else (some (0, 0, false)))
theorem impl_PartDone.mono : ∀ a0 a1 a2 a3 a4 a5 k, LeO (impl_PartDone.f k a0 a1 a2 a3 a4 a5) (impl_PartDone.f (k + 1) a0 a1 a2 a3 a4 a5) := by
  (intro a0 a1 a2 a3 a4 a5 k); (unfold impl_PartDone.f); (exact zq63)
def impl_PartDone.T3 : Bool × List (List Nat × List Nat) := (true, [([], []), ([], []), ([], []), ([], []), ([1, 2, 3], [1, 2, 3]), ([], []), ([5], [5]), ([4, 6], [4, 6]), ([7], [7]), ([], []), ([0, 8, 9, 4], [0, 8, 9]), ([10], [10]), ([10], [10]), ([10], [10]), ([11, 10, 0, 1, 2, 3, 4, 5, 6, 7, 8, 9, 10, 11, 12, 13], [11]), ([12, 14, 0, 1, 2, 3, 4, 5, 6, 7, 8, 9, 10, 11, 12, 13, 14], [12]), ([13, 15, 0, 1, 2, 3, 4, 5, 6, 7, 8, 9, 10, 11, 12, 13, 14, 15], [13])])
def impl_PartDone.B3 : List Nat := [0, 0, 0, 0, 14, 0, 32, 126, 254, 0, 1023, 2047, 2047, 2047, 16383, 32767, 65535]
theorem impl_PartDone.tab3 : rtab .any (opsOf Try.f97 3) = impl_PartDone.T3 := by kernel_rfl
theorem impl_PartDone.bits3 : waitsOk impl_PartDone.T3.2 impl_PartDone.B3 = true := by kernel_rfl
set_option maxHeartbeats 8000000 in
set_option maxRecDepth 100000 in
theorem impl_PartDone.calls (k : Nat) (a0_0 : Int) (a0_1 : Int) (a0_2 : Int) (A0_3 : Option Addr) (c0_3 : Nat) (l0_3 : List (S126)) (a1 : Int) (a2 : Int) (r1 : Int) (r2 : Int) (r3 : Bool) (w : World) (hr0_3 : Kd.C k126 w A0_3 l0_3.length l0_3) (hc0_3 : l0_3.length ≤ c0_3) (h : impl_PartDone.f k a0_0 a0_1 a0_2 l0_3 a1 a2 = some (r1, r2, r3)) :
    Calls Try.prog 97 #[.agg #[.int .i64 a0_0, .int .i64 a0_1, .int .i64 a0_2, .slice A0_3 l0_3.length c0_3], .int .i64 a1, .int .i64 a2] w fun e w' => e = .returned (.tuple #[.int .i64 r1, .int .i64 r2, .bool r3]) ∧ Below w.heap.size w w' := by
  (have hu31 := Try.underlying31); (have HR0_3 := Aside0.mk hr0_3); (have HC0_3 := Aside0.mk hc0_3); (clear hr0_3 hc0_3); (have HB := Aside0.mk (Below.refl w.heap.size w)); (have H : ((impl_isThrown.f a0_0 a0_1 a0_2 l0_3 a2 20 (([a1] : List Int))).bind fun t1475 => (if t1475 = true then ((impl_Board_places.f k a0_0 a0_1 a0_2 l0_3 a1 a2).bind fun t1476 => (if 0 ≤ a0_0 then (if a0_0 < (t1476.length : Int) then ((impl_Board_part.f k a0_0 a0_1 a0_2 l0_3 (rd t1476 a0_0) a2).bind fun bt1480 => (some (bt1480.1, bt1480.2.1, bt1480.2.2))) else (none)) else (none))) else (some (0, 0, false)))) = some (r1, r2, r3) := h); (clear h); (obtain ⟨y1472, hy1472⟩ : ∃ y_ : List Int, y_ = (([a1] : List Int)) := ⟨_, rfl⟩); (replace H : ((impl_isThrown.f a0_0 a0_1 a0_2 l0_3 a2 20 y1472).bind fun t1475 => (if t1475 = true then ((impl_Board_places.f k a0_0 a0_1 a0_2 l0_3 a1 a2).bind fun t1476 => (if 0 ≤ a0_0 then (if a0_0 < (t1476.length : Int) then ((impl_Board_part.f k a0_0 a0_1 a0_2 l0_3 (rd t1476 a0_0) a2).bind fun bt1480 => (some (bt1480.1, bt1480.2.1, bt1480.2.2))) else (none)) else (none))) else (some (0, 0, false)))) = some (r1, r2, r3) := by first | (rw [hy1472]; with_reducible exact H) | (have H2_ := (Option.bind_some _ _).symm.trans H; rw [hy1472]; with_reducible exact H2_) | (have H2_ := (Option.bind_some _ _).symm.trans H; with_reducible exact H2_) | with_reducible exact H | (rw [hy1472]; exact H) | exact H); (have Ny1472 := Aside0.mk hy1472); (clear hy1472); (replace H := Option.bind_eq_some_iff.mp H); (obtain ⟨t1475, A40, H⟩ := H); (replace H : (if t1475 = true then ((impl_Board_places.f k a0_0 a0_1 a0_2 l0_3 a1 a2).bind fun t1476 => (if 0 ≤ a0_0 then (if a0_0 < (t1476.length : Int) then ((impl_Board_part.f k a0_0 a0_1 a0_2 l0_3 (rd t1476 a0_0) a2).bind fun bt1480 => (some (bt1480.1, bt1480.2.1, bt1480.2.2))) else (none)) else (none))) else (some (0, 0, false))) = some (r1, r2, r3) := H); (have A4 := Aside0.mk A40); (clear A40); (by_cases c5 : t1475 = true)
  · subst c5
    (have H1 : ((impl_Board_places.f k a0_0 a0_1 a0_2 l0_3 a1 a2).bind fun t1476 => (if 0 ≤ a0_0 then (if a0_0 < (t1476.length : Int) then ((impl_Board_part.f k a0_0 a0_1 a0_2 l0_3 (rd t1476 a0_0) a2).bind fun bt1480 => (some (bt1480.1, bt1480.2.1, bt1480.2.2))) else (none)) else (none))) = some (r1, r2, r3) := by rw [if_pos rfl] at H; exact H); (clear H); (have H := H1); (clear H1); (replace H := Option.bind_eq_some_iff.mp H); (obtain ⟨t1476, A60, H⟩ := H); (replace H : (if 0 ≤ a0_0 then (if a0_0 < (t1476.length : Int) then ((impl_Board_part.f k a0_0 a0_1 a0_2 l0_3 (rd t1476 a0_0) a2).bind fun bt1480 => (some (bt1480.1, bt1480.2.1, bt1480.2.2))) else (none)) else (none)) = some (r1, r2, r3) := H); (have A6 := Aside0.mk A60); (clear A60); (by_cases c7 : 0 ≤ a0_0)
    · rw [if_pos c7] at H
      (have c7b0 : decide (0 ≤ a0_0) = true := decide_eq_true c7); (clear c7); (by_cases c8 : a0_0 < (t1476.length : Int))
      · rw [if_pos c8] at H
        (have c8b0 : decide (a0_0 < (t1476.length : Int)) = true := decide_eq_true c8); (clear c8); (replace H := Option.bind_eq_some_iff.mp H); (obtain ⟨⟨t1480, t1481, t1482⟩, A90, H⟩ := H); (replace H : (some (t1480, t1481, t1482)) = some (r1, r2, r3) := H); (have A9 := Aside0.mk A90); (clear A90); (simp only [Option.some.injEq, Prod.mk.injEq] at H); (obtain ⟨rfl, rfl, rfl⟩ := H); (go_enter Try.func97, Try.ntmps97); (try go_wp2_with (first | ((with_reducible refine gate_dst (N := 3) rfl ?_); refine box_event ?hg (N := 3) ?hd (cs := #[.int .i64 a0_0, .int .i64 a0_1, .int .i64 a0_2, .slice A0_3 l0_3.length c0_3]) (t := 31) ?hr ?_; (case hd => rfl); (case hg => rfl); (case hr => exact zq19); intro gb1471 hg w10 hbox hb; have BK1471 := Aside0.mk (hbox); have GW1471 := Aside0.mk ((zq8 HB.out : w.heap.size ≤ gb1471)); have GE1471 := Aside0.mk ((zq8 HB.out : w.heap.size ≤ gb1471)); replace HB := Aside0.mk (below_step (zq15 HB.out) hb); clear hb hbox hg; obtain ⟨hcz11_0, hcz11_1, hcz11_2, hcz11_3, hfz11_0, hfz11_1, hfz11_2, hfz11_3⟩ := bk4_ BK1471.out) | ((with_reducible refine gate_dst (N := 12) rfl ?_); refine Kd.R_lit (Kd.int .i64) _ 3 ?hg (N := 12) ?hd (xs := ([a1] : List Int)) (inner := [.int .i64 a1]) (ok := fun _ => True) (okp := fun _ => True) ?hr ?hp (fun _ hk => hk) trivial (Below.refl _ _) (Nat.le_refl _) (by simp) ?_; (case hd => rfl); (case hg => rfl); (case hr => exact zq19); (case hp => exact (Reps.one (show Kd.M (Kd.int .i64) _ _ _ a1 [.int .i64 a1] from rfl) (Reps.none _ _))); intro v1473 w12 ho13 hb hg_ hnew_; clear hg_ hnew_; (first | rw [← Ny1472.out] at ho13 | (simp only [Int.reduceToNat] at ho13; rw [← Ny1472.out] at ho13)); have HO1474 := Aside0.mk (Kd.R_lower ho13 (below_size (zq2 HB.out GE1471.out))); replace BK1471 := Aside0.mk (zB BK1471.out hb); replace HB := Aside0.mk (below_step (zq2 HB.out GE1471.out) hb); clear hb ho13; obtain ⟨Ao14, co14, eo14⟩ := Kd.R_slice HO1474.out; subst eo14) | ((with_reducible refine gate_callee (f := 173) rfl ?_); refine goesL_ (some 13) rfl rfl Try.func173 (by kernel_rfl) rfl #[.agg #[.int .i64 a0_0, .int .i64 a0_1, .int .i64 a0_2, .slice A0_3 l0_3.length c0_3], .int .i64 a2, .int .i64 20, .slice Ao14 y1472.length co14] rfl zq6 ?_; (with_reducible refine (impl_isThrown.calls a0_0 a0_1 a0_2 _ _ l0_3 a2 20 _ _ y1472 true _ ?side1 ?side2 ?side3 ?side4 A4.out).mono ?_); (case side1 => exact zq10 HR0_3.out HB.out); (case side2 => exact HC0_3.out); (case side3 => exact zq12 HO1474.out); (case side4 => exact (Kd.R_reads' HO1474.out).2.1); rintro e w15 ⟨rfl, hb⟩; refine ⟨_, rfl, ?_⟩; replace HO1474 := Aside0.mk (Kd.R_below (zq3 HO1474.out) hb); replace BK1471 := Aside0.mk (zB BK1471.out hb); replace HB := Aside0.mk (below_step (zq2 HB.out GE1471.out) hb); (try clear hb); (try clear hb2); (try clear hk); (try clear hi)))); (have n0_ := Aside0.mk (Kd.R_drew HO1474.out)); (have n1_ := Aside0.mk (blk_drew BK1471.out)); (have n2_ := Aside0.mk (below_drew1 HB.out)); (clear HO1474); (clear BK1471); (clear HB); (have HO1474 := n0_); (have BK1471 := n1_); (have HB := n2_); (clear n0_ n1_ n2_); (refine start_ (n := 17) (S := fun w' => w'.cell? ⟨gb1471, 0, none⟩ = some (.int .i64 a0_0) ∧ w'.cell? ⟨gb1471, 1, none⟩ = some (.int .i64 a0_1) ∧ w'.cell? ⟨gb1471, 2, none⟩ = some (.int .i64 a0_2) ∧ w'.cell? ⟨gb1471, 3, none⟩ = some (.slice A0_3 l0_3.length c0_3)) (ds := []) #[false, false, false, false, false, false, false, false, false, false, false, false, false, false, false, false, false] (by kernel_rfl) rfl rfl ⟨(blk_cell BK1471.out 0).trans rfl, (blk_cell BK1471.out 1).trans rfl, (blk_cell BK1471.out 2).trans rfl, (blk_cell BK1471.out 3).trans rfl⟩ (fun hHeld => ?_); refine with_tabW impl_PartDone.tab3 impl_PartDone.bits3 (fun HT_ HW_ => ?_)); (generalize w15.drew = w16 at HO1474 BK1471 HB hHeld ⊢); (refine pure_ (i := 2) (N := some 17) (v := ?_) (a' := ?_) #[false, false, true, false, false, false, false, false, false, false, false, false, false, false, false, false, false] rfl rfl (any_of HT_.out (by kernel_rfl)) (fun _ _ _ h => h) (Or.inl ⟨by rfl, ?_⟩) ?_ ?_); (rotate_left)
        · intro w'
          (go_simp); (with_reducible rfl)
        rotate_left
        · simp only [Act.put, List.setIfInBounds_toArray, List.set_cons_zero, List.set_cons_succ, i64_w, i32_w]
          rfl
        (refine pure_ (i := 3) (N := some 18) (v := ?_) (a' := ?_) #[false, false, true, true, false, false, false, false, false, false, false, false, false, false, false, false, false] rfl rfl (any_of HT_.out (by kernel_rfl)) (fun _ _ _ h => h) (Or.inl ⟨by rfl, ?_⟩) ?_ ?_); (rotate_left)
        · intro w'
          (go_simp); (with_reducible rfl)
        rotate_left
        · simp only [Act.put, List.setIfInBounds_toArray, List.set_cons_zero, List.set_cons_succ, i64_w, i32_w]
          rfl
        (refine pure_ (i := 5) (N := some 20) (v := ?_) (a' := ?_) #[false, false, true, true, false, true, false, false, false, false, false, false, false, false, false, false, false] rfl rfl (any_of HT_.out (by kernel_rfl)) (fun _ _ _ h => h) (Or.inl ⟨by rfl, ?_⟩) ?_ ?_); (rotate_left)
        · intro w'
          (go_simp); (with_reducible rfl)
        rotate_left
        · simp only [Act.put, List.setIfInBounds_toArray, List.set_cons_zero, List.set_cons_succ, i64_w, i32_w]
          rfl
        (refine pure_ (i := 9) (N := some 24) (v := ?_) (a' := ?_) #[false, false, true, true, false, true, false, false, false, true, false, false, false, false, false, false, false] rfl rfl (any_of HT_.out (by kernel_rfl)) (fun _ _ _ h => h) (Or.inl ⟨by rfl, ?_⟩) ?_ ?_); (rotate_left)
        · intro w'
          (go_simp); (with_reducible rfl)
        rotate_left
        · simp only [Act.put, List.setIfInBounds_toArray, List.set_cons_zero, List.set_cons_succ, i64_w, i32_w]
          rfl
        (refine take_ (i := 0) (N := some 15) (v := ?_) (a' := ?_) #[true, false, true, true, false, true, false, false, false, true, false, false, false, false, false, false, false] rfl rfl (take_ofW HT_.out HW_.out (by kernel_rfl)) (fun _ _ _ h => h) (Or.inl ⟨by rfl, ?_⟩) hHeld ?_ ?_); (rotate_left)
        · rintro w' ⟨s0, s1, s2, s3⟩
          (go_simp); (with_reducible rfl)
        rotate_left
        · simp only [Act.put, List.setIfInBounds_toArray, List.set_cons_zero, List.set_cons_succ, i64_w, i32_w]
          rfl
        (refine take_ (i := 1) (N := some 16) (v := ?_) (a' := ?_) #[true, true, true, true, false, true, false, false, false, true, false, false, false, false, false, false, false] rfl rfl (take_ofW HT_.out HW_.out (by kernel_rfl)) (fun _ _ _ h => h) (Or.inl ⟨by rfl, ?_⟩) hHeld ?_ ?_); (rotate_left)
        · rintro w' ⟨s0, s1, s2, s3⟩
          (go_simp); (with_reducible rfl)
        rotate_left
        · simp only [Act.put, List.setIfInBounds_toArray, List.set_cons_zero, List.set_cons_succ, i64_w, i32_w]
          rfl
        (refine take_ (i := 6) (N := some 21) (v := ?_) (a' := ?_) #[true, true, true, true, false, true, true, false, false, true, false, false, false, false, false, false, false] rfl rfl (take_ofW HT_.out HW_.out (by kernel_rfl)) (fun _ _ _ h => h) (Or.inl ⟨by rfl, ?_⟩) hHeld ?_ ?_); (rotate_left)
        · rintro w' ⟨s0, s1, s2, s3⟩
          (go_simp); (with_reducible rfl)
        rotate_left
        · simp only [Act.put, List.setIfInBounds_toArray, List.set_cons_zero, List.set_cons_succ, i64_w, i32_w]
          rfl
        (refine one_ (i := 4) (N := some 19) #[true, true, true, true, true, true, true, false, false, true, false, false, false, false, false, false, false] rfl rfl (one_of HT_.out (by kernel_rfl)) (by decide) (fun K hK => ?_)); (refine goes_ Try.func227 (by kernel_rfl) rfl #[.agg #[.int .i64 a0_0, .int .i64 a0_1, .int .i64 a0_2, .slice A0_3 l0_3.length c0_3], .int .i64 a1, .int .i64 a2] (by rfl) rfl rfl zq6 ?_); (with_reducible refine (impl_Board_places.calls k a0_0 a0_1 a0_2 _ _ l0_3 a1 a2 t1476 _ ?side1 ?side2 A6.out).mono ?_); ((case side1 => exact zq10 HR0_3.out HB.out)); ((case side2 => exact HC0_3.out)); (rintro e w17 ⟨v1477, rfl, ho0, hb⟩); (refine ⟨_, rfl, ?_⟩); (have n0_ := Aside0.mk (Kd.R_elder' (zq3 HO1474.out) (Kd.R_base ho0) hb)); (have n1_ := Aside0.mk (Kd.R_lower (Kd.R_new' ho0 (Kd.R_lt (zq3 HO1474.out))) (below_size (zq2 HB.out GE1471.out)))); (have n2_ := Aside0.mk (zB BK1471.out hb)); (have n3_ := Aside0.mk (below_step (zq2 HB.out GE1471.out) hb)); (clear HO1474); (clear BK1471); (clear HB); (have HO1474 := n0_); (have HO1478 := n1_); (have BK1471 := n2_); (have HB := n3_); (clear n0_ n1_ n2_ n3_); ((try clear hb)); ((try clear hb2)); ((try clear hk)); ((try clear hi)); ((try clear ho0)); (obtain ⟨Ao18, co18, eo18⟩ := Kd.R_slice HO1478.out); ((first | subst eo18 | (injection eo18 with f1_ f2_ f3_; have f4_ := f1_.symm; have f5_ := f3_.symm; clear f1_ f2_ f3_; subst f4_; subst f5_))); (have p1479 : 0 ≤ (a0_0 : Int) := of_decide_eq_true zq17); (have q1479 : a0_0 < (t1476.length : Int) := of_decide_eq_true zq17); (obtain ⟨ad1479, e1479, hx1479_0⟩ := Kd.at_int (Kd.R_reads' HO1478.out).2.2 a0_0 p1479 q1479); (cases e1479); (replace p1479 := eq_true p1479); (replace q1479 := eq_true q1479); (refine hK.out _ _ ⟨(blk_cell BK1471.out 0).trans rfl, (blk_cell BK1471.out 1).trans rfl, (blk_cell BK1471.out 2).trans rfl, (blk_cell BK1471.out 3).trans rfl⟩ (fun hHeld => ?_)); (clear hK K); (refine norm_ (a' := ?_) ?_ ?_); (rotate_left)
        · show Act.put _ (some 19) _ = _
          (simp only [Act.put, List.setIfInBounds_toArray, List.set_cons_zero, List.set_cons_succ, i64_w, i32_w]); (rfl)
        (refine pure_ (i := 7) (N := some 22) (v := ?_) (a' := ?_) #[true, true, true, true, true, true, true, true, false, true, false, false, false, false, false, false, false] rfl rfl (any_of HT_.out (by kernel_rfl)) (fun _ _ _ h => h) (Or.inl ⟨by rfl, ?_⟩) ?_ ?_); (rotate_left)
        · intro w'
          (go_simp); (with_reducible rfl)
        rotate_left
        · simp only [Act.put, List.setIfInBounds_toArray, List.set_cons_zero, List.set_cons_succ, i64_w, i32_w]
          rfl
        (refine one_ (i := 8) (N := some 23) #[true, true, true, true, true, true, true, true, true, true, false, false, false, false, false, false, false] rfl rfl (one_of HT_.out (by kernel_rfl)) (by decide) (fun K hK => ?_)); (refine value_ (w1 := ?_) (v := ?_) (by rfl) rfl ?_ ?_); (rotate_left 2)
        · go_simp
          constructor
          · rfl
          · rfl
        (refine hK.out _ _ ⟨hHeld.1, hHeld.2.1, hHeld.2.2.1, hHeld.2.2.2⟩ (fun hHeld => ?_)); (clear hK K); (refine norm_ (a' := ?_) ?_ ?_); (rotate_left)
        · show Act.put _ (some 23) _ = _
          (simp only [Act.put, List.setIfInBounds_toArray, List.set_cons_zero, List.set_cons_succ, i64_w, i32_w]); (rfl)
        (refine one_ (i := 10) (N := some 25) #[true, true, true, true, true, true, true, true, true, true, true, false, false, false, false, false, false] rfl rfl (one_of HT_.out (by kernel_rfl)) (by decide) (fun K hK => ?_)); (refine goes_ Try.func223 (by kernel_rfl) rfl #[.agg #[.int .i64 a0_0, .int .i64 a0_1, .int .i64 a0_2, .slice A0_3 l0_3.length c0_3], .int .i64 (rd t1476 a0_0), .int .i64 a2] (by rfl) rfl rfl zq6 ?_); (with_reducible refine (impl_Board_part.calls k a0_0 a0_1 a0_2 _ _ l0_3 (rd t1476 a0_0) a2 t1480 t1481 t1482 _ ?side1 ?side2 A9.out).mono ?_); ((case side1 => exact zq10 HR0_3.out HB.out)); ((case side2 => exact HC0_3.out)); (rintro e w19 ⟨rfl, hb⟩); (refine ⟨_, rfl, ?_⟩); (have n0_ := Aside0.mk (Kd.R_below (zq3 HO1474.out) hb)); (have n1_ := Aside0.mk (Kd.R_below (zq3 HO1478.out) hb)); (have n2_ := Aside0.mk (zB BK1471.out hb)); (have n3_ := Aside0.mk (below_step (zq2 HB.out GE1471.out) hb)); (clear HO1474); (clear HO1478); (clear BK1471); (clear HB); (have HO1474 := n0_); (have HO1478 := n1_); (have BK1471 := n2_); (have HB := n3_); (clear n0_ n1_ n2_ n3_); ((try clear hb)); ((try clear hb2)); ((try clear hk)); ((try clear hi)); (refine hK.out _ _ ⟨(blk_cell BK1471.out 0).trans rfl, (blk_cell BK1471.out 1).trans rfl, (blk_cell BK1471.out 2).trans rfl, (blk_cell BK1471.out 3).trans rfl⟩ (fun hHeld => ?_)); (clear hK K); (refine norm_ (a' := ?_) ?_ ?_); (rotate_left)
        · show Act.put _ (some 25) _ = _
          (simp only [Act.put, List.setIfInBounds_toArray, List.set_cons_zero, List.set_cons_succ, i64_w, i32_w]); (rfl)
        (refine pure_ (i := 11) (N := some 26) (v := ?_) (a' := ?_) #[true, true, true, true, true, true, true, true, true, true, true, true, false, false, false, false, false] rfl rfl (any_of HT_.out (by kernel_rfl)) (fun _ _ _ h => h) (Or.inl ⟨by rfl, ?_⟩) ?_ ?_); (rotate_left)
        · intro w'
          (go_simp); (with_reducible rfl)
        rotate_left
        · simp only [Act.put, List.setIfInBounds_toArray, List.set_cons_zero, List.set_cons_succ, i64_w, i32_w]
          rfl
        (refine pure_ (i := 12) (N := some 27) (v := ?_) (a' := ?_) #[true, true, true, true, true, true, true, true, true, true, true, true, true, false, false, false, false] rfl rfl (any_of HT_.out (by kernel_rfl)) (fun _ _ _ h => h) (Or.inl ⟨by rfl, ?_⟩) ?_ ?_); (rotate_left)
        · intro w'
          (go_simp); (with_reducible rfl)
        rotate_left
        · simp only [Act.put, List.setIfInBounds_toArray, List.set_cons_zero, List.set_cons_succ, i64_w, i32_w]
          rfl
        (refine pure_ (i := 13) (N := some 28) (v := ?_) (a' := ?_) #[true, true, true, true, true, true, true, true, true, true, true, true, true, true, false, false, false] rfl rfl (any_of HT_.out (by kernel_rfl)) (fun _ _ _ h => h) (Or.inl ⟨by rfl, ?_⟩) ?_ ?_); (rotate_left)
        · intro w'
          (go_simp); (with_reducible rfl)
        rotate_left
        · simp only [Act.put, List.setIfInBounds_toArray, List.set_cons_zero, List.set_cons_succ, i64_w, i32_w]
          rfl
        (refine pure_ (i := 14) (N := some 6) (v := ?_) (a' := ?_) #[true, true, true, true, true, true, true, true, true, true, true, true, true, true, true, false, false] rfl rfl (any_of HT_.out (by kernel_rfl)) (fun _ _ _ h => h) (Or.inl ⟨by rfl, ?_⟩) ?_ ?_); (rotate_left)
        · intro w'
          (go_simp); (with_reducible rfl)
        rotate_left
        · simp only [Act.put, List.setIfInBounds_toArray, List.set_cons_zero, List.set_cons_succ, i64_w, i32_w]
          rfl
        (refine pure_ (i := 15) (N := some 7) (v := ?_) (a' := ?_) #[true, true, true, true, true, true, true, true, true, true, true, true, true, true, true, true, false] rfl rfl (any_of HT_.out (by kernel_rfl)) (fun _ _ _ h => h) (Or.inl ⟨by rfl, ?_⟩) ?_ ?_); (rotate_left)
        · intro w'
          (go_simp); (with_reducible rfl)
        rotate_left
        · simp only [Act.put, List.setIfInBounds_toArray, List.set_cons_zero, List.set_cons_succ, i64_w, i32_w]
          rfl
        (refine pure_ (i := 16) (N := some 8) (v := ?_) (a' := ?_) #[true, true, true, true, true, true, true, true, true, true, true, true, true, true, true, true, true] rfl rfl (any_of HT_.out (by kernel_rfl)) (fun _ _ _ h => h) (Or.inl ⟨by rfl, ?_⟩) ?_ ?_); (rotate_left)
        · intro w'
          (go_simp); (with_reducible rfl)
        rotate_left
        · simp only [Act.put, List.setIfInBounds_toArray, List.set_cons_zero, List.set_cons_succ, i64_w, i32_w]
          rfl
        (refine done_ (done_of HT_.out (by kernel_rfl)) ?_); (try go_wp2); (go_ret3); (exact ⟨zq16, zq2 HB.out GE1471.out⟩)
      · rw [if_neg c8] at H
        exact absurd H (by simp)
    · rw [if_neg c7] at H
      exact absurd H (by simp)
  · replace c5 := Bool.eq_false_iff.mpr c5
    (subst c5); (have H1 : (some (0, 0, false)) = some (r1, r2, r3) := by rw [if_neg (show ¬ (false = true) by decide)] at H; exact H); (clear H); (have H := H1); (clear H1); (simp only [Option.some.injEq, Prod.mk.injEq] at H); (obtain ⟨rfl, rfl, rfl⟩ := H); (go_enter Try.func97, Try.ntmps97); (go_wp2_with (first | ((with_reducible refine gate_dst (N := 3) rfl ?_); refine box_event ?hg (N := 3) ?hd (cs := #[.int .i64 a0_0, .int .i64 a0_1, .int .i64 a0_2, .slice A0_3 l0_3.length c0_3]) (t := 31) ?hr ?_; (case hd => rfl); (case hg => rfl); (case hr => exact zq19); intro gb1471 hg w20 hbox hb; have BK1471 := Aside0.mk (hbox); have GW1471 := Aside0.mk ((zq8 HB.out : w.heap.size ≤ gb1471)); have GE1471 := Aside0.mk ((zq8 HB.out : w.heap.size ≤ gb1471)); replace HB := Aside0.mk (below_step (zq15 HB.out) hb); clear hb hbox hg; obtain ⟨hcz21_0, hcz21_1, hcz21_2, hcz21_3, hfz21_0, hfz21_1, hfz21_2, hfz21_3⟩ := bk4_ BK1471.out) | ((with_reducible refine gate_dst (N := 12) rfl ?_); refine Kd.R_lit (Kd.int .i64) _ 3 ?hg (N := 12) ?hd (xs := ([a1] : List Int)) (inner := [.int .i64 a1]) (ok := fun _ => True) (okp := fun _ => True) ?hr ?hp (fun _ hk => hk) trivial (Below.refl _ _) (Nat.le_refl _) (by simp) ?_; (case hd => rfl); (case hg => rfl); (case hr => exact zq19); (case hp => exact (Reps.one (show Kd.M (Kd.int .i64) _ _ _ a1 [.int .i64 a1] from rfl) (Reps.none _ _))); intro v1473 w22 ho23 hb hg_ hnew_; clear hg_ hnew_; (first | rw [← Ny1472.out] at ho23 | (simp only [Int.reduceToNat] at ho23; rw [← Ny1472.out] at ho23)); have HO1474 := Aside0.mk (Kd.R_lower ho23 (below_size (zq2 HB.out GE1471.out))); replace BK1471 := Aside0.mk (zB BK1471.out hb); replace HB := Aside0.mk (below_step (zq2 HB.out GE1471.out) hb); clear hb ho23; obtain ⟨Ao24, co24, eo24⟩ := Kd.R_slice HO1474.out; subst eo24) | ((with_reducible refine gate_callee (f := 173) rfl ?_); refine goesL_ (some 13) rfl rfl Try.func173 (by kernel_rfl) rfl #[.agg #[.int .i64 a0_0, .int .i64 a0_1, .int .i64 a0_2, .slice A0_3 l0_3.length c0_3], .int .i64 a2, .int .i64 20, .slice Ao24 y1472.length co24] rfl zq6 ?_; (with_reducible refine (impl_isThrown.calls a0_0 a0_1 a0_2 _ _ l0_3 a2 20 _ _ y1472 false _ ?side1 ?side2 ?side3 ?side4 A4.out).mono ?_); (case side1 => exact zq10 HR0_3.out HB.out); (case side2 => exact HC0_3.out); (case side3 => exact zq12 HO1474.out); (case side4 => exact (Kd.R_reads' HO1474.out).2.1); rintro e w25 ⟨rfl, hb⟩; refine ⟨_, rfl, ?_⟩; replace HO1474 := Aside0.mk (Kd.R_below (zq3 HO1474.out) hb); replace BK1471 := Aside0.mk (zB BK1471.out hb); replace HB := Aside0.mk (below_step (zq2 HB.out GE1471.out) hb); (try clear hb); (try clear hb2); (try clear hk); (try clear hi)))); (go_ret3); (exact ⟨zq16, zq2 HB.out GE1471.out⟩)
end

end Go.Proofs.Ytgahigmpcgfbeaa.P
end
