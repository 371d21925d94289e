/- FnExactPairGreatest: the reference's greatest means and the program's agree, for all pairs there are. -/
import Derived.Handy
import Derived.Test.YtnoejflancomaaaFnExactPairGreatestc2
section
namespace Go.Proofs.Ytnoejflancomaaa.P
set_option linter.unusedVariables false
set_option linter.unusedSimpArgs false
open Go.RowKit Go.Proofs.YtnoejflancomaaaW.PrintWords Go.Proofs.YtnoejflancomaaaW.PrintLast Go.Proofs.YtnoejflancomaaaW.PrintMore
attribute [local go_sem] max2_int min2_int max_two min_two max_three min_three max_four min_four
theorem pk_cases {ru : Nat} {a b : Int} {X Y : Int × Int} {t : Int} (h : pk ru a b X Y = some t) : t = 0 ∨ t = 1 := by
  unfold pk at h
  split at h
  · obtain ⟨c, _, rfl⟩ := Option.map_eq_some_iff.1 h
    by_cases hc : c < 0 <;> simp [hc]
  · obtain ⟨c, _, rfl⟩ := Option.map_eq_some_iff.1 h
    by_cases hc : 0 < c <;> simp [hc]
  · by_cases hc : b ≤ a <;> simp [hc] at h <;> omega
  · by_cases hc : b ≤ a <;> simp [hc] at h <;> omega
theorem tk_cases {ru : Nat} {s f a b x t : Int} (h : tk ru s f a b x = some t) : t = -1 ∨ (t = 0 ∧ a + x ≤ s) ∨ (t = 1 ∧ b + x ≤ s) := by
  unfold tk at h
  by_cases c1 : a + x ≤ s
  · by_cases c2 : b + x ≤ s
    · rw [if_pos c1, if_pos c2] at h
      rcases pk_cases h with rfl | rfl
      · exact Or.inr (Or.inl ⟨rfl, c1⟩)
      · exact Or.inr (Or.inr ⟨rfl, c2⟩)
    · rw [if_pos c1, if_neg c2] at h
      exact Or.inr (Or.inl ⟨(Option.some.inj h).symm, c1⟩)
  · by_cases c2 : b + x ≤ s
    · rw [if_neg c1, if_pos c2] at h
      exact Or.inr (Or.inr ⟨(Option.some.inj h).symm, c2⟩)
    · rw [if_neg c1, if_neg c2] at h
      exact Or.inl (Option.some.inj h).symm
theorem twL_mem {s f a b : Int} (ha : 0 ≤ a ∧ a ≤ s) (hb : 0 ≤ b ∧ b ≤ s) : tw s f a b ∈ twL s f := by
  unfold twL
  rw [List.mem_flatMap]
  refine ⟨a.toNat, List.mem_range.2 (by omega), List.mem_map.2 ⟨b.toNat, List.mem_range.2 (by omega), ?_⟩⟩
  have e1 : (a.toNat : Int) = a := by omega
  have e2 : (b.toNat : Int) = b := by omega
  simp only [e1, e2]
theorem twL_len {s f : Int} (hs : 1 ≤ s ∧ s ≤ 6) : (twL s f).length < maxLen := by
  have h : s.toNat ≤ 6 := by omega
  have e : (twL s f).length = (s.toNat + 1) * (s.toNat + 1) := by simp [twL, List.length_flatMap, List.map_const', List.sum_replicate_nat]
  rw [e]
  have := Nat.mul_le_mul (show s.toNat + 1 ≤ 7 by omega) (show s.toNat + 1 ≤ 7 by omega)
  unfold maxLen
  omega
theorem twF_val {ru : Nat} {s f a b : Int} {v : Value} (h : twF ru s f (tw s f a b) v) : v = frV (mT ru s f a b) := by
  obtain ⟨a', b', _, _, _, _, e, rfl⟩ := h
  simp only [Value.agg.injEq, Array.mk.injEq, List.cons.injEq, Value.int.injEq, true_and, and_true] at e
  obtain ⟨rfl, rfl⟩ := e
  rfl
set_option maxHeartbeats 8000000 in
set_option maxRecDepth 100000 in
theorem mean_step_0 (s f : Int) (B : Nat) (a b : Int) (w : World) (hs : 1 ≤ s ∧ s ≤ 6) (hf : 1 ≤ f ∧ f ≤ 4) (ha : 0 ≤ a ∧ a ≤ s) (hb : 0 ≤ b ∧ b ≤ s)
    (hm : memo Try.prog 87 (twF 0 s f) (twL s f) B w) (hst : stO 0 s f a b = some (mT 0 s f a b))
    (ih : ∀ (a' b' : Int) (w : World), 0 ≤ a' ∧ a' ≤ s → 0 ≤ b' ∧ b' ≤ s → a' + b' > a + b → memo Try.prog 87 (twF 0 s f) (twL s f) B w →
      Calls Try.prog 94 #[.agg #[chO, .map (some B)], tw s f a' b'] w fun e w' => e = .returned (frV (mT 0 s f a' b')) ∧ memo Try.prog 87 (twF 0 s f) (twL s f) B w' ∧ Bx w.heap.size B w w') :
    Calls Try.prog 94 #[.agg #[chO, .map (some B)], tw s f a b] w fun e w' => e = .returned (frV (mT 0 s f a b)) ∧ memo Try.prog 87 (twF 0 s f) (twL s f) B w' ∧ Bx w.heap.size B w w' := by
  have hlt := hm.lt
  have HT := Aside0.mk hst
  clear hst
  have IH := Aside0.mk ih
  have hsc := @store_func Try.prog (.func 78) #[] #[]
  have HW := Aside0.mk (⟨((hm.alloc (.cells #[chO, .map (some B)] 95)).alloc (.cells #[.int .i64 s, .int .i64 f, .int .i64 a, .int .i64 b] 87)).alloc (.cells #[.int .i64 0, .int .i64 0] 101),
    bx_of (below_alloc (below_alloc (below_alloc (Below.refl w.heap.size w) _) _) _), blk_alloc (blk_alloc (blk_new w _) _) _,
    blk_alloc (by have h := blk_new (w.alloc (.cells #[chO, .map (some B)] 95)) (.cells #[.int .i64 s, .int .i64 f, .int .i64 a, .int .i64 b] 87); rw [World.size_alloc] at h; exact h) _, hlt⟩ :
    Sw 0 s f a b chO B w (((w.alloc (.cells #[chO, .map (some B)] 95)).alloc (.cells #[.int .i64 s, .int .i64 f, .int .i64 a, .int .i64 b] 87)).alloc (.cells #[.int .i64 0, .int .i64 0] 101)))
  have HR := Aside0.mk (by have h := blk_new ((w.alloc (.cells #[chO, .map (some B)] 95)).alloc (.cells #[.int .i64 s, .int .i64 f, .int .i64 a, .int .i64 b] 87)) (.cells #[.int .i64 0, .int .i64 0] 101); rw [World.size_alloc, World.size_alloc] at h; exact h :
    (((w.alloc (.cells #[chO, .map (some B)] 95)).alloc (.cells #[.int .i64 s, .int .i64 f, .int .i64 a, .int .i64 b] 87)).alloc (.cells #[.int .i64 0, .int .i64 0] 101)).heap[w.heap.size + 1 + 1]? = some (.cells #[.int .i64 0, .int .i64 0] 101 (0, 0)))
  clear ih hm
  go_enter Try.func94, Try.ntmps94
  by_cases hd : a = s ∧ b = s
  · have hd1 : (decide (a = s) && decide (b = s)) = true := by simp [hd]
    have hv : mT 0 s f a b = (0, 1) := by
      have hst := HT.out
      unfold stO at hst
      rw [if_pos hd] at hst
      exact (Option.some.inj hst).symm
    have HV := Aside0.mk hv
    clear hv
    clear hd
    go_wp2_with (go_at_call 150; refine (twins_isDone s f a b _).mono ?_; rintro e w4 ⟨rfl, hb4⟩; have n0_ := Aside0.mk (HW.out.below hb4); have n1_ := Aside0.mk (blk_below HR.out hb4); clear HW HR hb4; have HW := n0_; have HR := n1_; clear n0_ n1_; have y0 := (blk_cell HR.out 0).trans rfl; have y1 := (blk_cell HR.out 1).trans rfl; have z0 := blk_frozen HR.out 0; have z1 := blk_frozen HR.out 1)
    refine bodyPost_ret (results_cell_row rfl _ _ (w.heap.size + 1 + 1) 101 #[.int .i64 0, .int .i64 1] (0, 0) _ rfl (blk_put (blk_put HR.out 0 (.int .i64 0) rfl) 1 (.int .i64 1) rfl) Try.underlying101 rfl (by kernel_rfl)) rfl ?_
    have HE := (HW.out.set (show w.heap.size + 2 ≤ w.heap.size + 1 + 1 by omega) 0 (.int .i64 0)).set (show w.heap.size + 2 ≤ w.heap.size + 1 + 1 by omega) 1 (.int .i64 1)
    exact ⟨by rw [HV.out], HE.map, HE.bx⟩
  · have hd1 : (decide (a = s) && decide (b = s)) = false := by simp only [Bool.and_eq_false_iff, decide_eq_false_iff_not]; omega
    obtain ⟨kl, hkl⟩ := tw_key s f a b (WalkArith.wf_i64 (by omega)) (WalkArith.wf_i64 (by omega)) (WalkArith.wf_i64 (by omega)) (WalkArith.wf_i64 (by omega))
    have zE : ∀ w : World, (zeroValue 101).run Try.prog w = .ok (.agg #[.int .i64 0, .int .i64 0]) w := fun w => by kernel_rfl
    have HD := Aside0.mk hd
    have HZ := Aside0.mk zE
    have HK := Aside0.mk hkl
    clear hd zE hkl
    go_wp2_with (first
      | (go_at_call 150; refine (twins_isDone s f a b _).mono ?_; rintro e w4 ⟨rfl, hb4⟩; have n0_ := Aside0.mk (HW.out.below hb4); have n1_ := Aside0.mk (blk_below HR.out hb4); clear HW HR hb4; have HW := n0_; have HR := n1_; clear n0_ n1_; have SV := HW.out.all; have x0 := SV.2.1; have x1 := SV.2.2.1; have x2 := SV.2.2.2.1; have x3 := SV.2.2.2.2.1; have x4 := SV.2.2.2.2.2.1; have x5 := SV.2.2.2.2.2.2; clear SV)
      | (at_lookup; have SV := (HW.out.alloc (.cells #[.int .i64 0, .int .i64 0] 101)).all; have xa0 := SV.2.1; have xa1 := SV.2.2.1; have xa2 := SV.2.2.2.1; have xa3 := SV.2.2.2.2.1; have xa4 := SV.2.2.2.2.2.1; have xa5 := SV.2.2.2.2.2.2; clear SV; have SV := (HW.out.alloc (.cells #[.int .i64 (mT 0 s f a b).1, .int .i64 (mT 0 s f a b).2] 101)).all; have xb0 := SV.2.1; have xb1 := SV.2.2.1; have xb2 := SV.2.2.2.1; have xb3 := SV.2.2.2.2.1; have xb4 := SV.2.2.2.2.2.1; have xb5 := SV.2.2.2.2.2.2; clear SV; have SV := ((HW.out.alloc (.cells #[.int .i64 0, .int .i64 0] 101)).alloc (.cells #[.int .i64 0, .int .i64 0] 101)).all; have xc0 := SV.2.1; have xc1 := SV.2.2.1; have xc2 := SV.2.2.2.1; have xc3 := SV.2.2.2.2.1; have xc4 := SV.2.2.2.2.2.1; have xc5 := SV.2.2.2.2.2.2; clear SV; have SV := ((HW.out.alloc (.cells #[.int .i64 0, .int .i64 0] 101)).alloc (.cells #[.int .i64 f, .int .i64 1] 101)).all; have xd0 := SV.2.1; have xd1 := SV.2.2.1; have xd2 := SV.2.2.2.1; have xd3 := SV.2.2.2.2.1; have xd4 := SV.2.2.2.2.2.1; have xd5 := SV.2.2.2.2.2.2; clear SV; have y0 := (blk_cell (blk_alloc HR.out (.cells #[.int .i64 (mT 0 s f a b).1, .int .i64 (mT 0 s f a b).2] 101)) 0).trans rfl; have y1 := (blk_cell (blk_alloc HR.out (.cells #[.int .i64 (mT 0 s f a b).1, .int .i64 (mT 0 s f a b).2] 101)) 1).trans rfl; have z0 := blk_frozen (blk_alloc HR.out (.cells #[.int .i64 (mT 0 s f a b).1, .int .i64 (mT 0 s f a b).2] 101)) 0; have z1 := blk_frozen (blk_alloc HR.out (.cells #[.int .i64 (mT 0 s f a b).1, .int .i64 (mT 0 s f a b).2] 101)) 1; refine wpList_memo_look _ rfl _ _ 93 rfl 87 101 tw_law Try.underlying93 (HZ.out _) (twF 0 s f) (twL s f) B rfl HW.out.map _ kl rfl HK.out ?_ ?h1; (case h1 => intro v hv; have hv := twF_val hv; subst hv; go_wp2; refine bodyPost_ret (results_cell_row rfl _ _ (w.heap.size + 1 + 1) 101 #[.int .i64 (mT 0 s f a b).1, .int .i64 (mT 0 s f a b).2] (0, 0) _ rfl (blk_put (blk_put (blk_alloc HR.out _) 0 (.int .i64 (mT 0 s f a b).1) rfl) 1 (.int .i64 (mT 0 s f a b).2) rfl) Try.underlying101 rfl (by kernel_rfl)) rfl ?_; have HE := ((HW.out.alloc (.cells #[.int .i64 (mT 0 s f a b).1, .int .i64 (mT 0 s f a b).2] 101)).set (show w.heap.size + 2 ≤ w.heap.size + 1 + 1 by omega) 0 (.int .i64 (mT 0 s f a b).1)).set (show w.heap.size + 2 ≤ w.heap.size + 1 + 1 by omega) 1 (.int .i64 (mT 0 s f a b).2); exact ⟨rfl, HE.map, HE.bx⟩)))
    have hg : w.heap.size + 2 < w4.heap.size := blk_lt HR.out
    have HS := Aside0.mk ((HW.out.alloc (.cells #[.int .i64 0, .int .i64 0] 101)).alloc (.cells #[.int .i64 f, .int .i64 1] 101))
    have HQ := Aside0.mk (by have h := blk_new (w4.alloc (.cells #[.int .i64 0, .int .i64 0] 101)) (.cells #[.int .i64 f, .int .i64 1] 101); rw [World.size_alloc] at h; exact h : ((w4.alloc (.cells #[.int .i64 0, .int .i64 0] 101)).alloc (.cells #[.int .i64 f, .int .i64 1] 101)).heap[w4.heap.size + 1]? = some (.cells #[.int .i64 f, .int .i64 1] 101 (0, 0)))
    have HR := Aside0.mk (blk_alloc (blk_alloc HR.out (.cells #[.int .i64 0, .int .i64 0] 101)) (.cells #[.int .i64 f, .int .i64 1] 101))
    obtain ⟨R, hR, hover⟩ := Option.bind_eq_some_iff.1 (show ((sm 0 s f a b f.toNat 1 (f, 1) 0).bind fun r => impl_fraction_over.f 99 r.1.1 r.1.2 r.2 1) = some (mT 0 s f a b) by have h := HT.out; unfold stO at h; rwa [if_neg HD.out] at h)
    have HO := Aside0.mk hover
    have HA := Aside0.mk hR
    clear hover hR
    go_loopw [8, 9] (fun v8 v9 wr => ∃ (n : Nat) (x m : Int) (q : Int × Int), v8 = .int .i64 m ∧ v9 = .int .i64 x ∧ x + n = f + 1 ∧ 1 ≤ x ∧ 0 ≤ m ∧ m < x ∧ Aside0 (sm 0 s f a b n x q m = some R) ∧ Aside0 (Sw 0 s f a b chO B w wr) ∧ Aside0 (wr.heap[w4.heap.size + 1]? = some (.cells #[.int .i64 q.1, .int .i64 q.2] 101 (0, 0))) ∧ Aside0 (wr.heap[w.heap.size + 1 + 1]? = some (.cells #[.int .i64 0, .int .i64 0] 101 (0, 0)))) (fun _ v _ => (f + 1 - intOf v).toNat)
    case atStart => exact ⟨f.toNat, 1, 0, (f, 1), rfl, rfl, by omega, by omega, by omega, by omega, HA, HS, HQ, HR⟩
    case round =>
      obtain ⟨n, x, m, q, rfl, rfl, hn, hx, hm0, hm1, HA, HS, HQ, HR⟩ := hrel
      have hBl : B < w.heap.size := hlt
      have SV := (HS.out).all
      have xr0 := SV.2.1
      have xr1 := SV.2.2.1
      have xr2 := SV.2.2.2.1
      have xr3 := SV.2.2.2.2.1
      have xr4 := SV.2.2.2.2.2.1
      have xr5 := SV.2.2.2.2.2.2
      clear SV
      have qr0 : wr.cell? ⟨w4.heap.size + 1, 0, none⟩ = some (.int .i64 q.1) := (blk_cell HQ.out 0).trans rfl
      have qr1 : wr.cell? ⟨w4.heap.size + 1, 1, none⟩ = some (.int .i64 q.2) := (blk_cell HQ.out 1).trans rfl
      by_cases hle : x ≤ f
      · obtain ⟨n', rfl⟩ : ∃ n' : Nat, n = n' + 1 := ⟨n - 1, by omega⟩
        have h := HA.out
        rw [sm] at h
        obtain ⟨t, ht, h⟩ := Option.bind_eq_some_iff.1 h
        have sx : IntKind.i64.wrap (x + 1) = x + 1 := IntWalk.i64_in _ (by omega)
        have sm' : IntKind.i64.wrap (m + 1) = m + 1 := IntWalk.i64_in _ (by omega)
        have m1 : -9223372036854775808 ≤ a + x := by omega
        have m2 : a + x ≤ 9223372036854775807 := by omega
        have m3 : -9223372036854775808 ≤ b + x := by omega
        have m4 : b + x ≤ 9223372036854775807 := by omega
        rcases tk_cases ht with rfl | ⟨rfl, hc⟩ | ⟨rfl, hc⟩
        · rw [if_neg (by decide)] at h
          have HA := Aside0.mk h
          have HT2 := Aside0.mk ht
          clear h ht
          go_wp2_with (go_at_call 79; refine (choice_0 s f B a b x (-1) _ hs hf ha hb ⟨hx, hle⟩ HS.out.map HT2.out IH.out).mono ?_; rintro e w6 ⟨rfl, hm6, hb6⟩; have n0_ := Aside0.mk (HS.out.mean hm6 hb6); have n1_ := Aside0.mk (blk_bx HQ.out hb6 (by omega)); have n2_ := Aside0.mk (blk_bx HR.out hb6 (by omega)); clear HS HQ HR hm6 hb6; have HS := n0_; have HQ := n1_; have HR := n2_; clear n0_ n1_ n2_)
          exact ⟨⟨n', x + 1, m, q, rfl, rfl, by omega, by omega, by omega, by omega, HA, HS, HQ, HR⟩, by simp [intOf]; omega⟩
        · rw [if_pos (by decide)] at h
          simp only [if_true, ite_true] at h
          obtain ⟨r, hr, h⟩ := Option.bind_eq_some_iff.1 h
          have HA := Aside0.mk h
          have HT2 := Aside0.mk ht
          have HP := Aside0.mk hr
          clear h ht hr
          go_wp2_with (go_at_call 79; refine (choice_0 s f B a b x 0 _ hs hf ha hb ⟨hx, hle⟩ HS.out.map HT2.out IH.out).mono ?_; rintro e w6 ⟨rfl, hm6, hb6⟩; have n0_ := Aside0.mk (HS.out.mean hm6 hb6); have n1_ := Aside0.mk (blk_bx HQ.out hb6 (by omega)); have n2_ := Aside0.mk (blk_bx HR.out hb6 (by omega)); clear HS HQ HR hm6 hb6; have HS := n0_; have HQ := n1_; have HR := n2_; clear n0_ n1_ n2_; have q60 : w6.cell? ⟨w4.heap.size + 1, 0, none⟩ = some (.int .i64 q.1) := (blk_cell HQ.out 0).trans rfl; have q61 : w6.cell? ⟨w4.heap.size + 1, 1, none⟩ = some (.int .i64 q.2) := (blk_cell HQ.out 1).trans rfl; have SV := (HS.out).all; have xe0 := SV.2.1; have xe1 := SV.2.2.1; have xe2 := SV.2.2.2.1; have xe3 := SV.2.2.2.2.1; have xe4 := SV.2.2.2.2.2.1; have xe5 := SV.2.2.2.2.2.2; clear SV)
          refine start_ (n := 9) (S := fun W => Sv 0 s f a b chO B w W ∧ W.cell? ⟨w4.heap.size + 1, 0, none⟩ = some (.int .i64 q.1) ∧ W.cell? ⟨w4.heap.size + 1, 1, none⟩ = some (.int .i64 q.2)) (ds := [8]) #[false, false, false, false, false, false, false, false, false] (by kernel_rfl) rfl rfl ⟨HS.out.drew.all, (blk_cell (blk_drew HQ.out) 0).trans rfl, (blk_cell (blk_drew HQ.out) 1).trans rfl⟩ (fun hHeld => ?_)
          refine pure_ (i := 3) (N := some 42) (v := ?_) (a' := ?_) #[false, false, false, true, false, false, false, false, false] rfl rfl (by kernel_rfl) (fun _ _ _ h => h) (Or.inl ⟨by rfl, ?_⟩) ?_ ?_
          rotate_left
          · intro w'
            go_simp
            with_reducible rfl
          rotate_left
          · simp only [Act.put, List.setIfInBounds_toArray, List.set_cons_zero, List.set_cons_succ, i64_w, i32_w]
            rfl
          refine pure_ (i := 4) (N := some 43) (v := ?_) (a' := ?_) #[false, false, false, true, true, false, false, false, false] rfl rfl (by kernel_rfl) (fun _ _ _ h => h) (Or.inl ⟨by rfl, ?_⟩) ?_ ?_
          rotate_left
          · intro w'
            go_simp
            with_reducible rfl
          rotate_left
          · simp only [Act.put, List.setIfInBounds_toArray, List.set_cons_zero, List.set_cons_succ, i64_w, i32_w]
            rfl
          refine take_ (i := 0) (N := some 39) (v := ?_) (a' := ?_) #[true, false, false, true, true, false, false, false, false] rfl rfl (by kernel_rfl) (fun _ _ _ h => h) (Or.inl ⟨by rfl, ?_⟩) hHeld ?_ ?_
          rotate_left
          · rintro w' ⟨⟨_, s0, s1, s2, s3, s4, s5⟩, s6, s7⟩
            go_simp
            with_reducible rfl
          rotate_left
          · simp only [Act.put, List.setIfInBounds_toArray, List.set_cons_zero, List.set_cons_succ, i64_w, i32_w]
            rfl
          refine take_ (i := 1) (N := some 40) (v := ?_) (a' := ?_) #[true, true, false, true, true, false, false, false, false] rfl rfl (by kernel_rfl) (fun _ _ _ h => h) (Or.inl ⟨by rfl, ?_⟩) hHeld ?_ ?_
          rotate_left
          · rintro w' ⟨⟨_, s0, s1, s2, s3, s4, s5⟩, s6, s7⟩
            go_simp
            with_reducible rfl
          rotate_left
          · simp only [Act.put, List.setIfInBounds_toArray, List.set_cons_zero, List.set_cons_succ, i64_w, i32_w]
            rfl
          refine take_ (i := 2) (N := some 41) (v := ?_) (a' := ?_) #[true, true, true, true, true, false, false, false, false] rfl rfl (by kernel_rfl) (fun _ _ _ h => h) (Or.inl ⟨by rfl, ?_⟩) hHeld ?_ ?_
          rotate_left
          · rintro w' ⟨⟨_, s0, s1, s2, s3, s4, s5⟩, s6, s7⟩
            go_simp
            with_reducible rfl
          rotate_left
          · simp only [Act.put, List.setIfInBounds_toArray, List.set_cons_zero, List.set_cons_succ, i64_w, i32_w]
            rfl
          refine one_ (i := 5) (N := some 44) #[true, true, true, true, true, true, false, false, false] rfl rfl (by kernel_rfl) (by decide) (fun K hK => ?_)
          refine goes_ Try.func95 (by kernel_rfl) rfl #[tw s f a b, .int .i64 0, .int .i64 x] (by rfl) rfl rfl (by (try simp only [List.map_toArray, List.map_cons, List.map_nil]); first | done | rfl) ?_
          with_reducible refine (twins_moved0 s f a b x m1 m2 m3 m4 _).mono ?_
          rintro e w7 ⟨rfl, hb7⟩
          have HQ7 := Aside0.mk (blk_below (blk_drew HQ.out) hb7)
          refine ⟨_, rfl, ?_⟩
          refine hK.out _ _ ⟨(HS.out.drew.below hb7).all, (blk_cell HQ7.out 0).trans rfl, (blk_cell HQ7.out 1).trans rfl⟩ (fun hHeld => ?_)
          clear hK K
          refine norm_ (a' := ?_) ?_ ?_
          rotate_left
          · show Act.put _ (some 44) _ = _
            simp only [Act.put, List.setIfInBounds_toArray, List.set_cons_zero, List.set_cons_succ, i64_w, i32_w]
            rfl
          refine one_ (i := 6) (N := some 45) #[true, true, true, true, true, true, true, false, false] rfl rfl (by kernel_rfl) (by decide) (fun K hK => ?_)
          refine goes_ Try.func94 (by kernel_rfl) rfl #[.agg #[chO, .map (some B)], tw s f (a + x) b] (by rfl) rfl rfl (by (try simp only [List.map_toArray, List.map_cons, List.map_nil]); first | done | rfl) ?_
          with_reducible refine (IH.out (a + x) b _ ⟨by omega, hc⟩ hb (by omega) (HS.out.drew.below hb7).map).mono ?_
          rintro e w8 ⟨rfl, hm8, hb8⟩
          have HQ8 := Aside0.mk (blk_bx HQ7.out hb8 (by omega))
          refine ⟨_, rfl, ?_⟩
          refine hK.out _ _ ⟨((HS.out.drew.below hb7).mean hm8 hb8).all, (blk_cell HQ8.out 0).trans rfl, (blk_cell HQ8.out 1).trans rfl⟩ (fun hHeld => ?_)
          clear hK K
          refine norm_ (a' := ?_) ?_ ?_
          rotate_left
          · show Act.put _ (some 45) _ = _
            simp only [Act.put, List.setIfInBounds_toArray, List.set_cons_zero, List.set_cons_succ, i64_w, i32_w]
            rfl
          refine one_ (i := 7) (N := some 46) #[true, true, true, true, true, true, true, true, false] rfl rfl (by kernel_rfl) (by decide) (fun K hK => ?_)
          refine goes_ Try.func118 (by kernel_rfl) rfl #[.agg #[.int .i64 q.1, .int .i64 q.2], frV (mT 0 s f (a + x) b)] (by rfl) rfl rfl (by (try simp only [List.map_toArray, List.map_cons, List.map_nil]); first | done | rfl) ?_
          with_reducible refine (impl_fraction_plus.calls 99 q.1 q.2 _ _ r.1 r.2 _ HP.out).mono ?_
          rintro e w9 ⟨rfl, hb9⟩
          have HQ9 := Aside0.mk (blk_below HQ8.out hb9)
          refine ⟨_, rfl, ?_⟩
          refine hK.out _ _ ⟨(((HS.out.drew.below hb7).mean hm8 hb8).below hb9).all, (blk_cell HQ9.out 0).trans rfl, (blk_cell HQ9.out 1).trans rfl⟩ (fun hHeld => ?_)
          clear hK K
          refine norm_ (a' := ?_) ?_ ?_
          rotate_left
          · show Act.put _ (some 46) _ = _
            simp only [Act.put, List.setIfInBounds_toArray, List.set_cons_zero, List.set_cons_succ, i64_w, i32_w]
            rfl
          refine last_ (i := 8) (N := none) #[true, true, true, true, true, true, true, true, true] rfl rfl (by kernel_rfl) (by decide) (fun K hK => ?_)
          have hs0 := hHeld.2.1
          have hs1 := hHeld.2.2
          have hf0 := blk_frozen HQ9.out 0
          have hf1 := blk_frozen HQ9.out 1
          refine skip_ (w1 := ?_) (by rfl) rfl ?_ ?_
          rotate_left
          · go_simp
            rfl
          refine hK.out _ _ ?_
          clear hK K
          refine done_ (by kernel_rfl) ?_
          try go_wp2
          exact ⟨⟨n', x + 1, m + 1, r, rfl, rfl, by omega, by omega, by omega, by omega, HA, ⟨((((HS.out.drew.below hb7).mean hm8 hb8).below hb9).set (show w.heap.size + 2 ≤ w4.heap.size + 1 by omega) 0 (.int .i64 r.1)).set (show w.heap.size + 2 ≤ w4.heap.size + 1 by omega) 1 (.int .i64 r.2)⟩, ⟨blk_put (blk_put HQ9.out 0 (.int .i64 r.1) rfl) 1 (.int .i64 r.2) rfl⟩, ⟨(Below.heap_setCell _ _ _ _ (show w.heap.size + 1 + 1 ≠ w4.heap.size + 1 by omega)).trans ((Below.heap_setCell _ _ _ _ (show w.heap.size + 1 + 1 ≠ w4.heap.size + 1 by omega)).trans (blk_below (blk_bx (blk_below (blk_drew HR.out) hb7) hb8 (by omega)) hb9))⟩⟩, by simp [intOf]; omega⟩
        · rw [if_pos (by decide)] at h
          simp only [if_neg (show ¬ (1:Int) = 0 by decide)] at h
          obtain ⟨r, hr, h⟩ := Option.bind_eq_some_iff.1 h
          have HA := Aside0.mk h
          have HT2 := Aside0.mk ht
          have HP := Aside0.mk hr
          clear h ht hr
          go_wp2_with (go_at_call 79; refine (choice_0 s f B a b x 1 _ hs hf ha hb ⟨hx, hle⟩ HS.out.map HT2.out IH.out).mono ?_; rintro e w6 ⟨rfl, hm6, hb6⟩; have n0_ := Aside0.mk (HS.out.mean hm6 hb6); have n1_ := Aside0.mk (blk_bx HQ.out hb6 (by omega)); have n2_ := Aside0.mk (blk_bx HR.out hb6 (by omega)); clear HS HQ HR hm6 hb6; have HS := n0_; have HQ := n1_; have HR := n2_; clear n0_ n1_ n2_; have q60 : w6.cell? ⟨w4.heap.size + 1, 0, none⟩ = some (.int .i64 q.1) := (blk_cell HQ.out 0).trans rfl; have q61 : w6.cell? ⟨w4.heap.size + 1, 1, none⟩ = some (.int .i64 q.2) := (blk_cell HQ.out 1).trans rfl; have SV := (HS.out).all; have xe0 := SV.2.1; have xe1 := SV.2.2.1; have xe2 := SV.2.2.2.1; have xe3 := SV.2.2.2.2.1; have xe4 := SV.2.2.2.2.2.1; have xe5 := SV.2.2.2.2.2.2; clear SV)
          refine start_ (n := 9) (S := fun W => Sv 0 s f a b chO B w W ∧ W.cell? ⟨w4.heap.size + 1, 0, none⟩ = some (.int .i64 q.1) ∧ W.cell? ⟨w4.heap.size + 1, 1, none⟩ = some (.int .i64 q.2)) (ds := [8]) #[false, false, false, false, false, false, false, false, false] (by kernel_rfl) rfl rfl ⟨HS.out.drew.all, (blk_cell (blk_drew HQ.out) 0).trans rfl, (blk_cell (blk_drew HQ.out) 1).trans rfl⟩ (fun hHeld => ?_)
          refine pure_ (i := 3) (N := some 42) (v := ?_) (a' := ?_) #[false, false, false, true, false, false, false, false, false] rfl rfl (by kernel_rfl) (fun _ _ _ h => h) (Or.inl ⟨by rfl, ?_⟩) ?_ ?_
          rotate_left
          · intro w'
            go_simp
            with_reducible rfl
          rotate_left
          · simp only [Act.put, List.setIfInBounds_toArray, List.set_cons_zero, List.set_cons_succ, i64_w, i32_w]
            rfl
          refine pure_ (i := 4) (N := some 43) (v := ?_) (a' := ?_) #[false, false, false, true, true, false, false, false, false] rfl rfl (by kernel_rfl) (fun _ _ _ h => h) (Or.inl ⟨by rfl, ?_⟩) ?_ ?_
          rotate_left
          · intro w'
            go_simp
            with_reducible rfl
          rotate_left
          · simp only [Act.put, List.setIfInBounds_toArray, List.set_cons_zero, List.set_cons_succ, i64_w, i32_w]
            rfl
          refine take_ (i := 0) (N := some 39) (v := ?_) (a' := ?_) #[true, false, false, true, true, false, false, false, false] rfl rfl (by kernel_rfl) (fun _ _ _ h => h) (Or.inl ⟨by rfl, ?_⟩) hHeld ?_ ?_
          rotate_left
          · rintro w' ⟨⟨_, s0, s1, s2, s3, s4, s5⟩, s6, s7⟩
            go_simp
            with_reducible rfl
          rotate_left
          · simp only [Act.put, List.setIfInBounds_toArray, List.set_cons_zero, List.set_cons_succ, i64_w, i32_w]
            rfl
          refine take_ (i := 1) (N := some 40) (v := ?_) (a' := ?_) #[true, true, false, true, true, false, false, false, false] rfl rfl (by kernel_rfl) (fun _ _ _ h => h) (Or.inl ⟨by rfl, ?_⟩) hHeld ?_ ?_
          rotate_left
          · rintro w' ⟨⟨_, s0, s1, s2, s3, s4, s5⟩, s6, s7⟩
            go_simp
            with_reducible rfl
          rotate_left
          · simp only [Act.put, List.setIfInBounds_toArray, List.set_cons_zero, List.set_cons_succ, i64_w, i32_w]
            rfl
          refine take_ (i := 2) (N := some 41) (v := ?_) (a' := ?_) #[true, true, true, true, true, false, false, false, false] rfl rfl (by kernel_rfl) (fun _ _ _ h => h) (Or.inl ⟨by rfl, ?_⟩) hHeld ?_ ?_
          rotate_left
          · rintro w' ⟨⟨_, s0, s1, s2, s3, s4, s5⟩, s6, s7⟩
            go_simp
            with_reducible rfl
          rotate_left
          · simp only [Act.put, List.setIfInBounds_toArray, List.set_cons_zero, List.set_cons_succ, i64_w, i32_w]
            rfl
          refine one_ (i := 5) (N := some 44) #[true, true, true, true, true, true, false, false, false] rfl rfl (by kernel_rfl) (by decide) (fun K hK => ?_)
          refine goes_ Try.func95 (by kernel_rfl) rfl #[tw s f a b, .int .i64 1, .int .i64 x] (by rfl) rfl rfl (by (try simp only [List.map_toArray, List.map_cons, List.map_nil]); first | done | rfl) ?_
          with_reducible refine (twins_moved1 s f a b x m1 m2 m3 m4 _).mono ?_
          rintro e w7 ⟨rfl, hb7⟩
          have HQ7 := Aside0.mk (blk_below (blk_drew HQ.out) hb7)
          refine ⟨_, rfl, ?_⟩
          refine hK.out _ _ ⟨(HS.out.drew.below hb7).all, (blk_cell HQ7.out 0).trans rfl, (blk_cell HQ7.out 1).trans rfl⟩ (fun hHeld => ?_)
          clear hK K
          refine norm_ (a' := ?_) ?_ ?_
          rotate_left
          · show Act.put _ (some 44) _ = _
            simp only [Act.put, List.setIfInBounds_toArray, List.set_cons_zero, List.set_cons_succ, i64_w, i32_w]
            rfl
          refine one_ (i := 6) (N := some 45) #[true, true, true, true, true, true, true, false, false] rfl rfl (by kernel_rfl) (by decide) (fun K hK => ?_)
          refine goes_ Try.func94 (by kernel_rfl) rfl #[.agg #[chO, .map (some B)], tw s f a (b + x)] (by rfl) rfl rfl (by (try simp only [List.map_toArray, List.map_cons, List.map_nil]); first | done | rfl) ?_
          with_reducible refine (IH.out a (b + x) _ ha ⟨by omega, hc⟩ (by omega) (HS.out.drew.below hb7).map).mono ?_
          rintro e w8 ⟨rfl, hm8, hb8⟩
          have HQ8 := Aside0.mk (blk_bx HQ7.out hb8 (by omega))
          refine ⟨_, rfl, ?_⟩
          refine hK.out _ _ ⟨((HS.out.drew.below hb7).mean hm8 hb8).all, (blk_cell HQ8.out 0).trans rfl, (blk_cell HQ8.out 1).trans rfl⟩ (fun hHeld => ?_)
          clear hK K
          refine norm_ (a' := ?_) ?_ ?_
          rotate_left
          · show Act.put _ (some 45) _ = _
            simp only [Act.put, List.setIfInBounds_toArray, List.set_cons_zero, List.set_cons_succ, i64_w, i32_w]
            rfl
          refine one_ (i := 7) (N := some 46) #[true, true, true, true, true, true, true, true, false] rfl rfl (by kernel_rfl) (by decide) (fun K hK => ?_)
          refine goes_ Try.func118 (by kernel_rfl) rfl #[.agg #[.int .i64 q.1, .int .i64 q.2], frV (mT 0 s f a (b + x))] (by rfl) rfl rfl (by (try simp only [List.map_toArray, List.map_cons, List.map_nil]); first | done | rfl) ?_
          with_reducible refine (impl_fraction_plus.calls 99 q.1 q.2 _ _ r.1 r.2 _ HP.out).mono ?_
          rintro e w9 ⟨rfl, hb9⟩
          have HQ9 := Aside0.mk (blk_below HQ8.out hb9)
          refine ⟨_, rfl, ?_⟩
          refine hK.out _ _ ⟨(((HS.out.drew.below hb7).mean hm8 hb8).below hb9).all, (blk_cell HQ9.out 0).trans rfl, (blk_cell HQ9.out 1).trans rfl⟩ (fun hHeld => ?_)
          clear hK K
          refine norm_ (a' := ?_) ?_ ?_
          rotate_left
          · show Act.put _ (some 46) _ = _
            simp only [Act.put, List.setIfInBounds_toArray, List.set_cons_zero, List.set_cons_succ, i64_w, i32_w]
            rfl
          refine last_ (i := 8) (N := none) #[true, true, true, true, true, true, true, true, true] rfl rfl (by kernel_rfl) (by decide) (fun K hK => ?_)
          have hs0 := hHeld.2.1
          have hs1 := hHeld.2.2
          have hf0 := blk_frozen HQ9.out 0
          have hf1 := blk_frozen HQ9.out 1
          refine skip_ (w1 := ?_) (by rfl) rfl ?_ ?_
          rotate_left
          · go_simp
            rfl
          refine hK.out _ _ ?_
          clear hK K
          refine done_ (by kernel_rfl) ?_
          try go_wp2
          exact ⟨⟨n', x + 1, m + 1, r, rfl, rfl, by omega, by omega, by omega, by omega, HA, ⟨((((HS.out.drew.below hb7).mean hm8 hb8).below hb9).set (show w.heap.size + 2 ≤ w4.heap.size + 1 by omega) 0 (.int .i64 r.1)).set (show w.heap.size + 2 ≤ w4.heap.size + 1 by omega) 1 (.int .i64 r.2)⟩, ⟨blk_put (blk_put HQ9.out 0 (.int .i64 r.1) rfl) 1 (.int .i64 r.2) rfl⟩, ⟨(Below.heap_setCell _ _ _ _ (show w.heap.size + 1 + 1 ≠ w4.heap.size + 1 by omega)).trans ((Below.heap_setCell _ _ _ _ (show w.heap.size + 1 + 1 ≠ w4.heap.size + 1 by omega)).trans (blk_below (blk_bx (blk_below (blk_drew HR.out) hb7) hb8 (by omega)) hb9))⟩⟩, by simp [intOf]; omega⟩
      · obtain rfl : n = 0 := by omega
        have h := HA.out
        rw [sm] at h
        obtain rfl := Option.some.inj h
        have HV := Aside0.mk (show impl_fraction_over.f 99 q.1 q.2 m 1 = some ((mT 0 s f a b).1, (mT 0 s f a b).2) from HO.out)
        have HL := Aside0.mk (twL_len (f := f) hs)
        clear h
        go_wp2_with (first
          | (go_at_call 151; (with_reducible refine (impl_fraction_over.calls 99 q.1 q.2 m 1 _ _ _ HV.out).mono ?_); rintro e w6 ⟨rfl, hb6⟩; have HS6 := Aside0.mk ((HS.out.below hb6).alloc (.cells #[.int .i64 (mT 0 s f a b).1, .int .i64 (mT 0 s f a b).2] 101)); have HR6 := Aside0.mk (blk_alloc (blk_below HR.out hb6) (.cells #[.int .i64 (mT 0 s f a b).1, .int .i64 (mT 0 s f a b).2] 101)); have HT6 := Aside0.mk (blk_new w6 (.cells #[.int .i64 (mT 0 s f a b).1, .int .i64 (mT 0 s f a b).2] 101)); have SV := (HS6.out).all; have xf0 := SV.2.1; have xf1 := SV.2.2.1; have xf2 := SV.2.2.2.1; have xf3 := SV.2.2.2.2.1; have xf4 := SV.2.2.2.2.2.1; have xf5 := SV.2.2.2.2.2.2; clear SV; have t6c0 := (blk_cell HT6.out 0).trans rfl; have t6f0 := blk_frozen HT6.out 0; have t6c1 := (blk_cell HT6.out 1).trans rfl; have t6f1 := blk_frozen HT6.out 1)
          | (at_mapUpdate; refine wpList_memo_put _ rfl _ _ _ 93 rfl 87 101 tw_law Try.underlying93 (twF 0 s f) (twL s f) B HL.out rfl HS6.out.map _ _ kl rfl rfl HK.out ⟨a, b, ha.1, ha.2, hb.1, hb.2, rfl, rfl⟩ (twL_mem ha hb) ?_; intro w8 hm8 hg8; have HX := (Bx.refl (w6.alloc (.cells #[.int .i64 (mT 0 s f a b).1, .int .i64 (mT 0 s f a b).2] 101)).heap.size B (w6.alloc (.cells #[.int .i64 (mT 0 s f a b).1, .int .i64 (mT 0 s f a b).2] 101))).grown hg8 (Nat.le_refl _); have HS8 := Aside0.mk (HS6.out.mean hm8 HX); have HR8 := Aside0.mk (blk_bx HR6.out HX (by omega)); have HT8 := Aside0.mk (blk_bx HT6.out HX (by have := hb6.size; have := blk_lt HQ.out; omega)); clear HX hm8 hg8; have t8c0 := (blk_cell HT8.out 0).trans rfl; have t8f0 := blk_frozen HT8.out 0; have t8c1 := (blk_cell HT8.out 1).trans rfl; have t8f1 := blk_frozen HT8.out 1; have r8c0 := (blk_cell HR8.out 0).trans rfl; have r8f0 := blk_frozen HR8.out 0; have r8c1 := (blk_cell HR8.out 1).trans rfl; have r8f1 := blk_frozen HR8.out 1))
        refine bodyPost_ret (results_cell_row rfl _ _ (w.heap.size + 1 + 1) 101 #[.int .i64 (mT 0 s f a b).1, .int .i64 (mT 0 s f a b).2] (0, 0) _ rfl (blk_put (blk_put HR8.out 0 (.int .i64 (mT 0 s f a b).1) rfl) 1 (.int .i64 (mT 0 s f a b).2) rfl) Try.underlying101 rfl (by kernel_rfl)) rfl ?_
        have HE := (HS8.out.set (show w.heap.size + 2 ≤ w.heap.size + 1 + 1 by omega) 0 (.int .i64 (mT 0 s f a b).1)).set (show w.heap.size + 2 ≤ w.heap.size + 1 + 1 by omega) 1 (.int .i64 (mT 0 s f a b).2)
        exact ⟨rfl, HE.map, HE.bx⟩
end Go.Proofs.Ytnoejflancomaaa.P
end

section
namespace Go.Proofs.Ytnoejflancomaaa.P
set_option linter.unusedVariables false
set_option linter.unusedSimpArgs false
open Go.RowKit Go.Proofs.YtnoejflancomaaaW.PrintWords Go.Proofs.YtnoejflancomaaaW.PrintLast Go.Proofs.YtnoejflancomaaaW.PrintMore
def stAll (ru : Nat) : Bool := (List.range 6).all fun s => (List.range 4).all fun f => (List.range (s + 2)).all fun a => (List.range (s + 2)).all fun b =>
  stO ru ((s + 1 : Nat) : Int) ((f + 1 : Nat) : Int) (a : Int) (b : Int) == some (mT ru ((s + 1 : Nat) : Int) ((f + 1 : Nat) : Int) (a : Int) (b : Int))
theorem stAll_spec {ru : Nat} (h : stAll ru = true) {s f a b : Int} (hs : 1 ≤ s ∧ s ≤ 6) (hf : 1 ≤ f ∧ f ≤ 4) (ha : 0 ≤ a ∧ a ≤ s) (hb : 0 ≤ b ∧ b ≤ s) : stO ru s f a b = some (mT ru s f a b) := by
  unfold stAll at h
  have h1 := List.all_eq_true.1 h (s.toNat - 1) (List.mem_range.2 (by omega))
  have h2 := List.all_eq_true.1 h1 (f.toNat - 1) (List.mem_range.2 (by omega))
  have h3 := List.all_eq_true.1 h2 a.toNat (List.mem_range.2 (by omega))
  have h4 := List.all_eq_true.1 h3 b.toNat (List.mem_range.2 (by omega))
  have h5 := eq_of_beq h4
  have e1 : ((s.toNat - 1 + 1 : Nat) : Int) = s := by omega
  have e2 : ((f.toNat - 1 + 1 : Nat) : Int) = f := by omega
  have e3 : (a.toNat : Int) = a := by omega
  have e4 : (b.toNat : Int) = b := by omega
  rw [e1, e2, e3, e4] at h5
  exact h5
theorem stAll_0 : stAll 0 = true := by decide +kernel
theorem mean_0 {s f : Int} (B : Nat) (hs : 1 ≤ s ∧ s ≤ 6) (hf : 1 ≤ f ∧ f ≤ 4) : ∀ (p : Nat) (a b : Int) (w : World), 0 ≤ a ∧ a ≤ s → 0 ≤ b ∧ b ≤ s → 2 * s - a - b ≤ p → memo Try.prog 87 (twF 0 s f) (twL s f) B w →
    Calls Try.prog 94 #[.agg #[chO, .map (some B)], tw s f a b] w fun e w' => e = .returned (frV (mT 0 s f a b)) ∧ memo Try.prog 87 (twF 0 s f) (twL s f) B w' ∧ Bx w.heap.size B w w'
  | 0, a, b, w, ha, hb, hp, hm => mean_step_0 s f B a b w hs hf ha hb hm (stAll_spec stAll_0 hs hf ha hb) (fun a' b' w' ha' hb' h _ => by omega)
  | p + 1, a, b, w, ha, hb, hp, hm => mean_step_0 s f B a b w hs hf ha hb hm (stAll_spec stAll_0 hs hf ha hb) (fun a' b' w' ha' hb' h hm' => mean_0 B hs hf p a' b' w' ha' hb' (by omega) hm')
end Go.Proofs.Ytnoejflancomaaa.P
end

section
namespace Go.Proofs.Ytnoejflancomaaa.P
open Go.RowKit Go.Proofs.YtnoejflancomaaaW.PrintWords Go.Proofs.YtnoejflancomaaaW.PrintLast Go.Proofs.YtnoejflancomaaaW.PrintMore
attribute [local go_sem] max2_int min2_int max_two min_two max_three min_three max_four min_four
set_option linter.unusedVariables false
set_option linter.unusedSimpArgs false
def impl_fraction_told.f (a0_0 : Int) (a0_1 : Int) : Option (Int × Int × Bool) := some (a0_0, a0_1, true)
set_option maxHeartbeats 8000000 in
set_option maxRecDepth 100000 in
theorem impl_fraction_told.calls (a0_0 : Int) (a0_1 : Int) (r1 : Int) (r2 : Int) (r3 : Bool) (w : World) (h : impl_fraction_told.f a0_0 a0_1 = some (r1, r2, r3)) :
    Calls Try.prog 120 #[.agg #[.int .i64 a0_0, .int .i64 a0_1]] w fun e w' => e = .returned (.tuple #[.int .i64 r1, .int .i64 r2, .bool r3]) ∧ Below w.heap.size w w' := by
  have hu101 := Try.underlying101
  have HB := Aside0.mk (Below.refl w.heap.size w)
  have H : (some (a0_0, a0_1, true)) = some (r1, r2, r3) := h
  clear h
  simp only [Option.some.injEq, Prod.mk.injEq] at H
  obtain ⟨rfl, rfl, rfl⟩ := H
  go_enter Try.func120, Try.ntmps120
  go_wp2_with (first | ((with_reducible refine gate_dst (N := 1) rfl ?_); refine box_event ?hg (N := 1) ?hd (cs := #[.int .i64 a0_0, .int .i64 a0_1]) (t := 101) ?hr ?_; (case hd => rfl); (case hg => rfl); (case hr => first | (go_simp; done) | (go_simp; rfl)); intro gb334 hg w2 hbox hb; have n0_ := Aside0.mk (below_step (by repeat (first | (with_reducible first | exact HB.out | apply below_alloc | apply pw_below_drewN | apply below_drew1) | exact HB.out)) hb); have n1_ := Aside0.mk (hbox); have n2_ := Aside0.mk ((by rw [hg]; exact (below_size (by repeat (first | (with_reducible first | exact HB.out | apply below_alloc | apply pw_below_drewN | apply below_drew1) | exact HB.out))) : w.heap.size ≤ gb334)); have n3_ := Aside0.mk ((by rw [hg]; exact (below_size (by repeat (first | (with_reducible first | exact HB.out | apply below_alloc | apply pw_below_drewN | apply below_drew1) | exact HB.out))) : w.heap.size ≤ gb334)); clear HB; have HB := n0_; have BK334 := n1_; have GW334 := n2_; have GE334 := n3_; clear n0_ n1_ n2_ n3_; clear hb hbox hg; have hcz3_0 : w2.cell? ⟨gb334, 0, none⟩ = some (.int .i64 a0_0) := (blk_cell BK334.out 0).trans rfl; have hcz3_1 : w2.cell? ⟨gb334, 1, none⟩ = some (.int .i64 a0_1) := (blk_cell BK334.out 1).trans rfl; have hfz3_0 := blk_frozen BK334.out 0; have hfz3_1 := blk_frozen BK334.out 1))
  repeat (go_quiet (first | ((with_reducible refine gate_dst (N := 1) rfl ?_); refine box_event ?hg (N := 1) ?hd (cs := #[.int .i64 a0_0, .int .i64 a0_1]) (t := 101) ?hr ?_; (case hd => rfl); (case hg => rfl); (case hr => first | (go_simp; done) | (go_simp; rfl)); intro gb334 hg w2 hbox hb; have n0_ := Aside0.mk (below_step (by repeat (first | (with_reducible first | exact HB.out | apply below_alloc | apply pw_below_drewN | apply below_drew1) | exact HB.out)) hb); have n1_ := Aside0.mk (hbox); have n2_ := Aside0.mk ((by rw [hg]; exact (below_size (by repeat (first | (with_reducible first | exact HB.out | apply below_alloc | apply pw_below_drewN | apply below_drew1) | exact HB.out))) : w.heap.size ≤ gb334)); have n3_ := Aside0.mk ((by rw [hg]; exact (below_size (by repeat (first | (with_reducible first | exact HB.out | apply below_alloc | apply pw_below_drewN | apply below_drew1) | exact HB.out))) : w.heap.size ≤ gb334)); clear HB; have HB := n0_; have BK334 := n1_; have GW334 := n2_; have GE334 := n3_; clear n0_ n1_ n2_ n3_; clear hb hbox hg; have hcz3_0 : w2.cell? ⟨gb334, 0, none⟩ = some (.int .i64 a0_0) := (blk_cell BK334.out 0).trans rfl; have hcz3_1 : w2.cell? ⟨gb334, 1, none⟩ = some (.int .i64 a0_1) := (blk_cell BK334.out 1).trans rfl; have hfz3_0 := blk_frozen BK334.out 0; have hfz3_1 := blk_frozen BK334.out 1)); try go_wp2_with (first | ((with_reducible refine gate_dst (N := 1) rfl ?_); refine box_event ?hg (N := 1) ?hd (cs := #[.int .i64 a0_0, .int .i64 a0_1]) (t := 101) ?hr ?_; (case hd => rfl); (case hg => rfl); (case hr => first | (go_simp; done) | (go_simp; rfl)); intro gb334 hg w2 hbox hb; have n0_ := Aside0.mk (below_step (by repeat (first | (with_reducible first | exact HB.out | apply below_alloc | apply pw_below_drewN | apply below_drew1) | exact HB.out)) hb); have n1_ := Aside0.mk (hbox); have n2_ := Aside0.mk ((by rw [hg]; exact (below_size (by repeat (first | (with_reducible first | exact HB.out | apply below_alloc | apply pw_below_drewN | apply below_drew1) | exact HB.out))) : w.heap.size ≤ gb334)); have n3_ := Aside0.mk ((by rw [hg]; exact (below_size (by repeat (first | (with_reducible first | exact HB.out | apply below_alloc | apply pw_below_drewN | apply below_drew1) | exact HB.out))) : w.heap.size ≤ gb334)); clear HB; have HB := n0_; have BK334 := n1_; have GW334 := n2_; have GE334 := n3_; clear n0_ n1_ n2_ n3_; clear hb hbox hg; have hcz3_0 : w2.cell? ⟨gb334, 0, none⟩ = some (.int .i64 a0_0) := (blk_cell BK334.out 0).trans rfl; have hcz3_1 : w2.cell? ⟨gb334, 1, none⟩ = some (.int .i64 a0_1) := (blk_cell BK334.out 1).trans rfl; have hfz3_0 := blk_frozen BK334.out 0; have hfz3_1 := blk_frozen BK334.out 1)))
  go_ret3
  exact ⟨by first | rfl | (simp [errW_none, errW_some] <;> rfl) | (simp [*, errW_none, errW_some] <;> rfl), by repeat (first | (with_reducible first | exact HB.out | apply below_alloc | apply pw_below_drewN | apply below_drew1 | refine below_set ?_ GE334.out) | exact HB.out)⟩
end Go.Proofs.Ytnoejflancomaaa.P
end

section
namespace Go.Proofs.Ytnoejflancomaaa.P
set_option linter.unusedVariables false
set_option linter.unusedSimpArgs false
open Go.RowKit Go.Proofs.YtnoejflancomaaaW.PrintWords Go.Proofs.YtnoejflancomaaaW.PrintLast Go.Proofs.YtnoejflancomaaaW.PrintMore
attribute [local go_sem] max2_int min2_int max_two min_two max_three min_three max_four min_four
def prG (s f a b : Int) : Bool := inn s 1 6 && inn f 1 4 && inn a 0 s && inn b 0 s
theorem prG_iff {s f a b : Int} : prG s f a b = true ↔ (1 ≤ s ∧ s ≤ 6) ∧ (1 ≤ f ∧ f ≤ 4) ∧ (0 ≤ a ∧ a ≤ s) ∧ (0 ≤ b ∧ b ≤ s) := by
  simp only [prG, Bool.and_eq_true, inn_iff, and_assoc]
theorem memo_empty {P : Program} {k : TypeId} {F : Value → Value → Prop} {L : List Value} {b : Nat} {w : World} (h : w.heap[b]? = some (.map #[] 0)) : memo P k F L b w :=
  ⟨#[], 0, h, ⟨by simp, MapKept.stamped_empty 0, by simp⟩, by simp⟩
def prR (ru : Nat) (s f a b : Int) : Int × Int × Bool := if prG s f a b then ((mT ru s f a b).1, (mT ru s f a b).2, true) else (0, 0, false)
theorem told_calls (x y : Int) (w : World) : Calls Try.prog 120 #[.agg #[.int .i64 x, .int .i64 y]] w fun e w' => e = .returned (.tuple #[.int .i64 x, .int .i64 y, .bool true]) ∧ Below w.heap.size w w' := impl_fraction_told.calls x y x y true w rfl
abbrev Tq (s f a b : Int) (g : Nat) (W : World) : Prop :=
  Aside0 (W.heap[g]? = some (.cells #[.int .i64 s, .int .i64 f, .int .i64 a, .int .i64 b] 87 (0, 0))) ∧ W.cell? ⟨g, 0, none⟩ = some (.int .i64 s) ∧ W.cell? ⟨g, 1, none⟩ = some (.int .i64 f) ∧ W.cell? ⟨g, 2, none⟩ = some (.int .i64 a) ∧ W.cell? ⟨g, 3, none⟩ = some (.int .i64 b)
theorem tq {s f a b : Int} {g : Nat} {W : World} (h : W.heap[g]? = some (.cells #[.int .i64 s, .int .i64 f, .int .i64 a, .int .i64 b] 87 (0, 0))) : Tq s f a b g W :=
  ⟨⟨h⟩, (blk_cell h 0).trans rfl, (blk_cell h 1).trans rfl, (blk_cell h 2).trans rfl, (blk_cell h 3).trans rfl⟩
set_option maxHeartbeats 1600000 in
set_option maxRecDepth 100000 in
theorem meanBy_0 (s f a b : Int) (w : World) :
    Calls Try.prog 81 #[.int .i64 s, .int .i64 f, .int .i64 a, .int .i64 b, chO] w fun e w' => e = .returned (.tuple #[.int .i64 (prR 0 s f a b).1, .int .i64 (prR 0 s f a b).2.1, .bool (prR 0 s f a b).2.2]) ∧ Below w.heap.size w w' := by
  go_enter Try.func81, Try.ntmps81
  have HB := Aside0.mk (Below.refl w.heap.size w)
  by_cases hg : prG s f a b = true
  · have hr : prR 0 s f a b = ((mT 0 s f a b).1, (mT 0 s f a b).2, true) := by simp [prR, hg]
    rw [hr]
    have hg' : (inn s 1 6 && inn f 1 4 && inn a 0 s && inn b 0 s) = true := hg
    obtain ⟨hs, hf, ha, hb⟩ := prG_iff.1 hg
    clear hr hg
    go_wp2_with (go_at_call 75; refine (twins_of s f a b _).mono ?_; rintro e w1 ⟨rfl, hb1⟩; have n0_ := Aside0.mk (bT HB.out hb1); clear HB; have HB := n0_; clear n0_; clear hb1)
    have HG := Aside0.mk (blk_new w1 (.cells #[.int .i64 s, .int .i64 f, .int .i64 a, .int .i64 b] 87))
    have HB2 := Aside0.mk (below_alloc HB.out (.cells #[.int .i64 s, .int .i64 f, .int .i64 a, .int .i64 b] 87)).drew
    have hp : 2 * s - a - b ≤ ((2 * s - a - b).toNat : Int) := by omega
    have E0 := Aside0.mk (show (w1.alloc (.cells #[.int .i64 s, .int .i64 f, .int .i64 a, .int .i64 b] 87)).drew.heap.size + 1 = w1.heap.size + 1 + 1 from congrArg (· + 1) (World.size_alloc _ _))
    have hne : w1.heap.size ≠ w1.heap.size + 1 + 1 := by omega
    go_region_held3 (fun W => Tq s f a b w1.heap.size W) (first | exact tq (blk_drew HG.out) | exact tq (blk_below (blk_drew HG.out) hb3) | exact tq (blk_bx (blk_below (blk_drew HG.out) hb3) hb4 hne) | exact tq (blk_below (blk_bx (blk_below (blk_drew HG.out) hb3) hb4 hne) hb5)) (first
      | (go_at_call 77; (with_reducible refine (twins_new 78 #[] #[] _).mono ?_); rintro e w3 ⟨rfl, hm3, hb3⟩; rw [E0.out] at hm3; (try rw [E0.out]))
      | (go_at_call 94; (with_reducible refine (mean_0 (w1.heap.size + 1 + 1) hs hf (2 * s - a - b).toNat a b _ ha hb hp (memo_empty hm3)).mono ?_); rintro e w4 ⟨rfl, hm4, hb4⟩)
      | (go_at_call 120; (with_reducible refine (told_calls _ _ _).mono ?_); rintro e w5 ⟨rfl, hb5⟩))
    go_wp2
    go_returns
    have g2 := bT HB2.out hb3
    have g3 : Below w.heap.size w w4 := g2.trans ((hb4.mono g2.size).below (by have := HB.out.size; omega))
    exact ⟨rfl, bT g3 hb5⟩
  · have hr : prR 0 s f a b = (0, 0, false) := by simp [prR, hg]
    rw [hr]
    have hg' : (inn s 1 6 && inn f 1 4 && inn a 0 s && inn b 0 s) = false := by simpa [prG] using hg
    clear hr hg
    go_wp2_with (go_at_call 75; refine (twins_of s f a b _).mono ?_; rintro e w1 ⟨rfl, hb1⟩; have n0_ := Aside0.mk (bT HB.out hb1); clear HB; have HB := n0_; clear n0_; clear hb1)
    go_returns
    exact ⟨rfl, below_alloc HB.out _⟩
end Go.Proofs.Ytnoejflancomaaa.P
end

section
namespace Go.Proofs.Ytnoejflancomaaa.P
open Go.RowKit Go.Proofs.YtnoejflancomaaaW.PrintWords Go.Proofs.YtnoejflancomaaaW.PrintLast Go.Proofs.YtnoejflancomaaaW.PrintMore
attribute [local go_sem] max2_int min2_int max_two min_two max_three min_three max_four min_four
set_option linter.unusedVariables false
set_option linter.unusedSimpArgs false
theorem greatest_calls (s f a b x0 x1 y0 y1 : Int) (k : Nat) (c : Int) (h : impl_fraction_compare.f k y0 y1 x0 x1 = some c) (w : World) :
    Calls Try.prog 83 #[tw s f a b, .agg #[.int .i64 x0, .int .i64 x1, .int .i64 y0, .int .i64 y1]] w fun e w' => e = .returned (.int .i64 (if 0 < c then 1 else 0)) ∧ Below w.heap.size w w' := by
  have HB := Aside0.mk (below_alloc (below_alloc (Below.refl w.heap.size w) (.cells #[.int .i64 s, .int .i64 f, .int .i64 a, .int .i64 b] 87)) (.cells #[.int .i64 x0, .int .i64 x1, .int .i64 y0, .int .i64 y1] 102))
  go_enter Try.func83, Try.ntmps83
  by_cases hc : 0 < c
  · go_wp2_with (go_at_call 139; refine (impl_fraction_compare.calls k y0 y1 x0 x1 c _ h).mono ?_; rintro e w1 ⟨rfl, hb⟩)
    go_ret
    exact ⟨by simp, bT HB.out hb⟩
  · go_wp2_with (go_at_call 139; refine (impl_fraction_compare.calls k y0 y1 x0 x1 c _ h).mono ?_; rintro e w1 ⟨rfl, hb⟩)
    go_ret
    exact ⟨by simp, bT HB.out hb⟩
end Go.Proofs.Ytnoejflancomaaa.P
end

section
namespace Go.Proofs.Ytnoejflancomaaa.P
set_option linter.unusedVariables false
set_option linter.unusedSimpArgs false
open Go.RowKit Go.Proofs.YtnoejflancomaaaW.PrintWords Go.Proofs.YtnoejflancomaaaW.PrintLast Go.Proofs.YtnoejflancomaaaW.PrintMore
attribute [local go_sem] max2_int min2_int max_two min_two max_three min_three max_four min_four
abbrev chO1 : Value := .func (.func 83) #[] #[]
set_option maxHeartbeats 4000000 in
set_option maxRecDepth 100000 in
theorem choice_1 (s f : Int) (B : Nat) (a b x : Int) (tok : Int) (w : World) (hs : 1 ≤ s ∧ s ≤ 6) (hf : 1 ≤ f ∧ f ≤ 4) (ha : 0 ≤ a ∧ a ≤ s) (hb : 0 ≤ b ∧ b ≤ s) (hx : 1 ≤ x ∧ x ≤ f)
    (hm : memo Try.prog 87 (twF 1 s f) (twL s f) B w) (ht : tk 1 s f a b x = some tok)
    (ih : ∀ (a' b' : Int) (w : World), 0 ≤ a' ∧ a' ≤ s → 0 ≤ b' ∧ b' ≤ s → a' + b' > a + b → memo Try.prog 87 (twF 1 s f) (twL s f) B w →
      Calls Try.prog 94 #[.agg #[chO1, .map (some B)], tw s f a' b'] w fun e w' => e = .returned (frV (mT 1 s f a' b')) ∧ memo Try.prog 87 (twF 1 s f) (twL s f) B w' ∧ Bx w.heap.size B w w') :
    Calls Try.prog 79 #[.agg #[chO1, .map (some B)], tw s f a b, .int .i64 x] w fun e w' => e = .returned (.int .i64 tok) ∧ memo Try.prog 87 (twF 1 s f) (twL s f) B w' ∧ Bx w.heap.size B w w' := by
  have HM := Aside0.mk ((hm.alloc (.cells #[chO1, .map (some B)] 95)).alloc (.cells #[.int .i64 s, .int .i64 f, .int .i64 a, .int .i64 b] 87))
  have HB := Aside0.mk (below_alloc (below_alloc (Below.refl w.heap.size w) (.cells #[chO1, .map (some B)] 95)) (.cells #[.int .i64 s, .int .i64 f, .int .i64 a, .int .i64 b] 87))
  have HG := Aside0.mk (blk_alloc (blk_new w (.cells #[chO1, .map (some B)] 95)) (.cells #[.int .i64 s, .int .i64 f, .int .i64 a, .int .i64 b] 87))
  have HT := Aside0.mk (by have h := blk_new (w.alloc (.cells #[chO1, .map (some B)] 95)) (.cells #[.int .i64 s, .int .i64 f, .int .i64 a, .int .i64 b] 87); rw [World.size_alloc] at h; exact h : ((w.alloc (.cells #[chO1, .map (some B)] 95)).alloc (.cells #[.int .i64 s, .int .i64 f, .int .i64 a, .int .i64 b] 87)).heap[w.heap.size + 1]? = some (.cells #[.int .i64 s, .int .i64 f, .int .i64 a, .int .i64 b] 87 (0, 0)))
  have IH := Aside0.mk ih
  have hsc := @store_func Try.prog (.func 83) #[] #[]
  have hlt := hm.lt
  clear ih hm
  unfold tk at ht
  go_enter Try.func79, Try.ntmps79
  by_cases c1 : a + x ≤ s
  · by_cases c2 : b + x ≤ s
    · rw [if_pos c1, if_pos c2] at ht
      go_wp2_with (go_at_call 93; go_loud (refine (twins_moves s f a b x (by omega) (by omega) (by omega) (by omega) _).mono ?_; rintro e w1 ⟨v, rfl, ho, hb1⟩; obtain ⟨A, cp, rfl, hcp, hC⟩ := Kd.R_reads ho; have hl : mvs s a b x 2 = [0, 1] := (by simp [mvs, c1, c2]); simp only [hl] at hC ⊢; simp only [List.length_cons, List.length_nil, Nat.zero_add, Nat.reduceAdd] at hC ⊢; clear ho hl; have n0_ := Aside0.mk (HM.out.below hb1); have n1_ := Aside0.mk (blk_below HG.out hb1); have n2_ := Aside0.mk (blk_below HT.out hb1); have n3_ := Aside0.mk (bT HB.out hb1); have HC := Aside0.mk hC; clear hC HM HG HT HB hb1; have HM := n0_; have HG := n1_; have HT := n2_; have HB := n3_; clear n0_ n1_ n2_ n3_))
      obtain ⟨c, hc, htok⟩ := Option.map_eq_some_iff.1 ht
      have HW := Aside0.mk (⟨HM.out, bx_of HB.out, HG.out, HT.out, hlt⟩ : Sw 1 s f a b chO1 B w w1)
      have m1 : -9223372036854775808 ≤ a + x := by omega
      have m2 : a + x ≤ 9223372036854775807 := by omega
      have m3 : -9223372036854775808 ≤ b + x := by omega
      have m4 : b + x ≤ 9223372036854775807 := by omega
      clear HC
      go_region_held3 (fun W => Sv 1 s f a b chO1 B w W) (first | exact HW.out.drew.all | exact (HW.out.drew.below hb9).all | exact ((HW.out.drew.below hb9).mean hm10 hb10).all | exact (((HW.out.drew.below hb9).mean hm10 hb10).below hb11).all | exact ((((HW.out.drew.below hb9).mean hm10 hb10).below hb11).mean hm12 hb12).all | exact (((((HW.out.drew.below hb9).mean hm10 hb10).below hb11).mean hm12 hb12).below hb13).all) (first
        | (go_at_call 95; (with_reducible refine (twins_moved0 s f a b x m1 m2 m3 m4 _).mono ?_); rintro e w9 ⟨rfl, hb9⟩)
        | (go_at_call 95; (with_reducible refine (twins_moved1 s f a b x m1 m2 m3 m4 _).mono ?_); rintro e w11 ⟨rfl, hb11⟩)
        | (go_at_call 94; (with_reducible refine (IH.out (a + x) b _ ⟨by omega, c1⟩ hb (by omega) (HW.out.drew.below hb9).map).mono ?_); rintro e w10 ⟨rfl, hm10, hb10⟩)
        | (go_at_call 94; (with_reducible refine (IH.out a (b + x) _ ha ⟨by omega, c2⟩ (by omega) (((HW.out.drew.below hb9).mean hm10 hb10).below hb11).map).mono ?_); rintro e w12 ⟨rfl, hm12, hb12⟩)
        | (go_at_call 83; (with_reducible refine (greatest_calls s f a b _ _ _ _ 99 c hc _).mono ?_); rintro e w13 ⟨rfl, hb13⟩))
      have HE := (((((HW.out.drew.below hb9).mean hm10 hb10).below hb11).mean hm12 hb12).below hb13)
      go_wp2
      go_ret
      exact ⟨by first | rfl | rw [htok], HE.map, HE.bx⟩
    · rw [if_pos c1, if_neg c2] at ht
      obtain rfl := Option.some.inj ht
      go_wp2_with (go_at_call 93; refine (twins_moves s f a b x (by omega) (by omega) (by omega) (by omega) _).mono ?_; rintro e w1 ⟨v, rfl, ho, hb1⟩; have hl : mvs s a b x 2 = [0] := (by simp [mvs, c1, c2]); rw [hl] at ho; obtain ⟨g1, cp, rfl, _, _, _⟩ := Kd.R_form ho (by decide); have h0 : w1.cell? ⟨g1, 0, none⟩ = some (.int .i64 0) := (by obtain ⟨ad, e, h0⟩ := Kd.at_int (Kd.R_reads' ho).2.2 0 (by decide) (by decide); obtain rfl : (⟨g1, 0, none⟩ : Addr) = ad := Option.some.inj e; exact h0); simp only [List.length_cons, List.length_nil, Nat.zero_add]; clear ho hl; have n0_ := Aside0.mk (HM.out.below hb1); have n3_ := Aside0.mk (bT HB.out hb1); clear HM HB hb1; have HM := n0_; have HB := n3_; clear n0_ n3_)
      go_ret
      exact ⟨rfl, HM.out, bx_of HB.out⟩
  · by_cases c2 : b + x ≤ s
    · rw [if_neg c1, if_pos c2] at ht
      obtain rfl := Option.some.inj ht
      go_wp2_with (go_at_call 93; refine (twins_moves s f a b x (by omega) (by omega) (by omega) (by omega) _).mono ?_; rintro e w1 ⟨v, rfl, ho, hb1⟩; have hl : mvs s a b x 2 = [1] := (by simp [mvs, c1, c2]); rw [hl] at ho; obtain ⟨g1, cp, rfl, _, _, _⟩ := Kd.R_form ho (by decide); have h0 : w1.cell? ⟨g1, 0, none⟩ = some (.int .i64 1) := (by obtain ⟨ad, e, h0⟩ := Kd.at_int (Kd.R_reads' ho).2.2 0 (by decide) (by decide); obtain rfl : (⟨g1, 0, none⟩ : Addr) = ad := Option.some.inj e; exact h0); simp only [List.length_cons, List.length_nil, Nat.zero_add]; clear ho hl; have n0_ := Aside0.mk (HM.out.below hb1); have n3_ := Aside0.mk (bT HB.out hb1); clear HM HB hb1; have HM := n0_; have HB := n3_; clear n0_ n3_)
      go_ret
      exact ⟨rfl, HM.out, bx_of HB.out⟩
    · rw [if_neg c1, if_neg c2] at ht
      obtain rfl := Option.some.inj ht
      go_wp2_with (go_at_call 93; refine (twins_moves s f a b x (by omega) (by omega) (by omega) (by omega) _).mono ?_; rintro e w1 ⟨v, rfl, ho, hb1⟩; have hl : mvs s a b x 2 = [] := (by simp [mvs, c1, c2]); rw [hl] at ho; obtain ⟨A, cp, rfl, hcp, hC⟩ := Kd.R_reads ho; simp only [List.length_nil]; clear hC; clear ho hl; have n0_ := Aside0.mk (HM.out.below hb1); have n3_ := Aside0.mk (bT HB.out hb1); clear HM HB hb1; have HM := n0_; have HB := n3_; clear n0_ n3_)
      go_ret
      exact ⟨rfl, HM.out, bx_of HB.out⟩
end Go.Proofs.Ytnoejflancomaaa.P
end

section
namespace Go.Proofs.Ytnoejflancomaaa.P
set_option linter.unusedVariables false
set_option linter.unusedSimpArgs false
open Go.RowKit Go.Proofs.YtnoejflancomaaaW.PrintWords Go.Proofs.YtnoejflancomaaaW.PrintLast Go.Proofs.YtnoejflancomaaaW.PrintMore
attribute [local go_sem] max2_int min2_int max_two min_two max_three min_three max_four min_four
set_option maxHeartbeats 8000000 in
set_option maxRecDepth 100000 in
theorem mean_step_1 (s f : Int) (B : Nat) (a b : Int) (w : World) (hs : 1 ≤ s ∧ s ≤ 6) (hf : 1 ≤ f ∧ f ≤ 4) (ha : 0 ≤ a ∧ a ≤ s) (hb : 0 ≤ b ∧ b ≤ s)
    (hm : memo Try.prog 87 (twF 1 s f) (twL s f) B w) (hst : stO 1 s f a b = some (mT 1 s f a b))
    (ih : ∀ (a' b' : Int) (w : World), 0 ≤ a' ∧ a' ≤ s → 0 ≤ b' ∧ b' ≤ s → a' + b' > a + b → memo Try.prog 87 (twF 1 s f) (twL s f) B w →
      Calls Try.prog 94 #[.agg #[chO1, .map (some B)], tw s f a' b'] w fun e w' => e = .returned (frV (mT 1 s f a' b')) ∧ memo Try.prog 87 (twF 1 s f) (twL s f) B w' ∧ Bx w.heap.size B w w') :
    Calls Try.prog 94 #[.agg #[chO1, .map (some B)], tw s f a b] w fun e w' => e = .returned (frV (mT 1 s f a b)) ∧ memo Try.prog 87 (twF 1 s f) (twL s f) B w' ∧ Bx w.heap.size B w w' := by
  have hlt := hm.lt
  have HT := Aside0.mk hst
  clear hst
  have IH := Aside0.mk ih
  have hsc := @store_func Try.prog (.func 83) #[] #[]
  have HW := Aside0.mk (⟨((hm.alloc (.cells #[chO1, .map (some B)] 95)).alloc (.cells #[.int .i64 s, .int .i64 f, .int .i64 a, .int .i64 b] 87)).alloc (.cells #[.int .i64 0, .int .i64 0] 101),
    bx_of (below_alloc (below_alloc (below_alloc (Below.refl w.heap.size w) _) _) _), blk_alloc (blk_alloc (blk_new w _) _) _,
    blk_alloc (by have h := blk_new (w.alloc (.cells #[chO1, .map (some B)] 95)) (.cells #[.int .i64 s, .int .i64 f, .int .i64 a, .int .i64 b] 87); rw [World.size_alloc] at h; exact h) _, hlt⟩ :
    Sw 1 s f a b chO1 B w (((w.alloc (.cells #[chO1, .map (some B)] 95)).alloc (.cells #[.int .i64 s, .int .i64 f, .int .i64 a, .int .i64 b] 87)).alloc (.cells #[.int .i64 0, .int .i64 0] 101)))
  have HR := Aside0.mk (by have h := blk_new ((w.alloc (.cells #[chO1, .map (some B)] 95)).alloc (.cells #[.int .i64 s, .int .i64 f, .int .i64 a, .int .i64 b] 87)) (.cells #[.int .i64 0, .int .i64 0] 101); rw [World.size_alloc, World.size_alloc] at h; exact h :
    (((w.alloc (.cells #[chO1, .map (some B)] 95)).alloc (.cells #[.int .i64 s, .int .i64 f, .int .i64 a, .int .i64 b] 87)).alloc (.cells #[.int .i64 0, .int .i64 0] 101)).heap[w.heap.size + 1 + 1]? = some (.cells #[.int .i64 0, .int .i64 0] 101 (0, 0)))
  clear ih hm
  go_enter Try.func94, Try.ntmps94
  by_cases hd : a = s ∧ b = s
  · have hd1 : (decide (a = s) && decide (b = s)) = true := by simp [hd]
    have hv : mT 1 s f a b = (0, 1) := by
      have hst := HT.out
      unfold stO at hst
      rw [if_pos hd] at hst
      exact (Option.some.inj hst).symm
    have HV := Aside0.mk hv
    clear hv
    clear hd
    go_wp2_with (go_at_call 150; refine (twins_isDone s f a b _).mono ?_; rintro e w4 ⟨rfl, hb4⟩; have n0_ := Aside0.mk (HW.out.below hb4); have n1_ := Aside0.mk (blk_below HR.out hb4); clear HW HR hb4; have HW := n0_; have HR := n1_; clear n0_ n1_; have y0 := (blk_cell HR.out 0).trans rfl; have y1 := (blk_cell HR.out 1).trans rfl; have z0 := blk_frozen HR.out 0; have z1 := blk_frozen HR.out 1)
    refine bodyPost_ret (results_cell_row rfl _ _ (w.heap.size + 1 + 1) 101 #[.int .i64 0, .int .i64 1] (0, 0) _ rfl (blk_put (blk_put HR.out 0 (.int .i64 0) rfl) 1 (.int .i64 1) rfl) Try.underlying101 rfl (by kernel_rfl)) rfl ?_
    have HE := (HW.out.set (show w.heap.size + 2 ≤ w.heap.size + 1 + 1 by omega) 0 (.int .i64 0)).set (show w.heap.size + 2 ≤ w.heap.size + 1 + 1 by omega) 1 (.int .i64 1)
    exact ⟨by rw [HV.out], HE.map, HE.bx⟩
  · have hd1 : (decide (a = s) && decide (b = s)) = false := by simp only [Bool.and_eq_false_iff, decide_eq_false_iff_not]; omega
    obtain ⟨kl, hkl⟩ := tw_key s f a b (WalkArith.wf_i64 (by omega)) (WalkArith.wf_i64 (by omega)) (WalkArith.wf_i64 (by omega)) (WalkArith.wf_i64 (by omega))
    have zE : ∀ w : World, (zeroValue 101).run Try.prog w = .ok (.agg #[.int .i64 0, .int .i64 0]) w := fun w => by kernel_rfl
    have HD := Aside0.mk hd
    have HZ := Aside0.mk zE
    have HK := Aside0.mk hkl
    clear hd zE hkl
    go_wp2_with (first
      | (go_at_call 150; refine (twins_isDone s f a b _).mono ?_; rintro e w4 ⟨rfl, hb4⟩; have n0_ := Aside0.mk (HW.out.below hb4); have n1_ := Aside0.mk (blk_below HR.out hb4); clear HW HR hb4; have HW := n0_; have HR := n1_; clear n0_ n1_; have SV := HW.out.all; have x0 := SV.2.1; have x1 := SV.2.2.1; have x2 := SV.2.2.2.1; have x3 := SV.2.2.2.2.1; have x4 := SV.2.2.2.2.2.1; have x5 := SV.2.2.2.2.2.2; clear SV)
      | (at_lookup; have SV := (HW.out.alloc (.cells #[.int .i64 0, .int .i64 0] 101)).all; have xa0 := SV.2.1; have xa1 := SV.2.2.1; have xa2 := SV.2.2.2.1; have xa3 := SV.2.2.2.2.1; have xa4 := SV.2.2.2.2.2.1; have xa5 := SV.2.2.2.2.2.2; clear SV; have SV := (HW.out.alloc (.cells #[.int .i64 (mT 1 s f a b).1, .int .i64 (mT 1 s f a b).2] 101)).all; have xb0 := SV.2.1; have xb1 := SV.2.2.1; have xb2 := SV.2.2.2.1; have xb3 := SV.2.2.2.2.1; have xb4 := SV.2.2.2.2.2.1; have xb5 := SV.2.2.2.2.2.2; clear SV; have SV := ((HW.out.alloc (.cells #[.int .i64 0, .int .i64 0] 101)).alloc (.cells #[.int .i64 0, .int .i64 0] 101)).all; have xc0 := SV.2.1; have xc1 := SV.2.2.1; have xc2 := SV.2.2.2.1; have xc3 := SV.2.2.2.2.1; have xc4 := SV.2.2.2.2.2.1; have xc5 := SV.2.2.2.2.2.2; clear SV; have SV := ((HW.out.alloc (.cells #[.int .i64 0, .int .i64 0] 101)).alloc (.cells #[.int .i64 f, .int .i64 1] 101)).all; have xd0 := SV.2.1; have xd1 := SV.2.2.1; have xd2 := SV.2.2.2.1; have xd3 := SV.2.2.2.2.1; have xd4 := SV.2.2.2.2.2.1; have xd5 := SV.2.2.2.2.2.2; clear SV; have y0 := (blk_cell (blk_alloc HR.out (.cells #[.int .i64 (mT 1 s f a b).1, .int .i64 (mT 1 s f a b).2] 101)) 0).trans rfl; have y1 := (blk_cell (blk_alloc HR.out (.cells #[.int .i64 (mT 1 s f a b).1, .int .i64 (mT 1 s f a b).2] 101)) 1).trans rfl; have z0 := blk_frozen (blk_alloc HR.out (.cells #[.int .i64 (mT 1 s f a b).1, .int .i64 (mT 1 s f a b).2] 101)) 0; have z1 := blk_frozen (blk_alloc HR.out (.cells #[.int .i64 (mT 1 s f a b).1, .int .i64 (mT 1 s f a b).2] 101)) 1; refine wpList_memo_look _ rfl _ _ 93 rfl 87 101 tw_law Try.underlying93 (HZ.out _) (twF 1 s f) (twL s f) B rfl HW.out.map _ kl rfl HK.out ?_ ?h1; (case h1 => intro v hv; have hv := twF_val hv; subst hv; go_wp2; refine bodyPost_ret (results_cell_row rfl _ _ (w.heap.size + 1 + 1) 101 #[.int .i64 (mT 1 s f a b).1, .int .i64 (mT 1 s f a b).2] (0, 0) _ rfl (blk_put (blk_put (blk_alloc HR.out _) 0 (.int .i64 (mT 1 s f a b).1) rfl) 1 (.int .i64 (mT 1 s f a b).2) rfl) Try.underlying101 rfl (by kernel_rfl)) rfl ?_; have HE := ((HW.out.alloc (.cells #[.int .i64 (mT 1 s f a b).1, .int .i64 (mT 1 s f a b).2] 101)).set (show w.heap.size + 2 ≤ w.heap.size + 1 + 1 by omega) 0 (.int .i64 (mT 1 s f a b).1)).set (show w.heap.size + 2 ≤ w.heap.size + 1 + 1 by omega) 1 (.int .i64 (mT 1 s f a b).2); exact ⟨rfl, HE.map, HE.bx⟩)))
    have hg : w.heap.size + 2 < w4.heap.size := blk_lt HR.out
    have HS := Aside0.mk ((HW.out.alloc (.cells #[.int .i64 0, .int .i64 0] 101)).alloc (.cells #[.int .i64 f, .int .i64 1] 101))
    have HQ := Aside0.mk (by have h := blk_new (w4.alloc (.cells #[.int .i64 0, .int .i64 0] 101)) (.cells #[.int .i64 f, .int .i64 1] 101); rw [World.size_alloc] at h; exact h : ((w4.alloc (.cells #[.int .i64 0, .int .i64 0] 101)).alloc (.cells #[.int .i64 f, .int .i64 1] 101)).heap[w4.heap.size + 1]? = some (.cells #[.int .i64 f, .int .i64 1] 101 (0, 0)))
    have HR := Aside0.mk (blk_alloc (blk_alloc HR.out (.cells #[.int .i64 0, .int .i64 0] 101)) (.cells #[.int .i64 f, .int .i64 1] 101))
    obtain ⟨R, hR, hover⟩ := Option.bind_eq_some_iff.1 (show ((sm 1 s f a b f.toNat 1 (f, 1) 0).bind fun r => impl_fraction_over.f 99 r.1.1 r.1.2 r.2 1) = some (mT 1 s f a b) by have h := HT.out; unfold stO at h; rwa [if_neg HD.out] at h)
    have HO := Aside0.mk hover
    have HA := Aside0.mk hR
    clear hover hR
    go_loopw [8, 9] (fun v8 v9 wr => ∃ (n : Nat) (x m : Int) (q : Int × Int), v8 = .int .i64 m ∧ v9 = .int .i64 x ∧ x + n = f + 1 ∧ 1 ≤ x ∧ 0 ≤ m ∧ m < x ∧ Aside0 (sm 1 s f a b n x q m = some R) ∧ Aside0 (Sw 1 s f a b chO1 B w wr) ∧ Aside0 (wr.heap[w4.heap.size + 1]? = some (.cells #[.int .i64 q.1, .int .i64 q.2] 101 (0, 0))) ∧ Aside0 (wr.heap[w.heap.size + 1 + 1]? = some (.cells #[.int .i64 0, .int .i64 0] 101 (0, 0)))) (fun _ v _ => (f + 1 - intOf v).toNat)
    case atStart => exact ⟨f.toNat, 1, 0, (f, 1), rfl, rfl, by omega, by omega, by omega, by omega, HA, HS, HQ, HR⟩
    case round =>
      obtain ⟨n, x, m, q, rfl, rfl, hn, hx, hm0, hm1, HA, HS, HQ, HR⟩ := hrel
      have hBl : B < w.heap.size := hlt
      have SV := (HS.out).all
      have xr0 := SV.2.1
      have xr1 := SV.2.2.1
      have xr2 := SV.2.2.2.1
      have xr3 := SV.2.2.2.2.1
      have xr4 := SV.2.2.2.2.2.1
      have xr5 := SV.2.2.2.2.2.2
      clear SV
      have qr0 : wr.cell? ⟨w4.heap.size + 1, 0, none⟩ = some (.int .i64 q.1) := (blk_cell HQ.out 0).trans rfl
      have qr1 : wr.cell? ⟨w4.heap.size + 1, 1, none⟩ = some (.int .i64 q.2) := (blk_cell HQ.out 1).trans rfl
      by_cases hle : x ≤ f
      · obtain ⟨n', rfl⟩ : ∃ n' : Nat, n = n' + 1 := ⟨n - 1, by omega⟩
        have h := HA.out
        rw [sm] at h
        obtain ⟨t, ht, h⟩ := Option.bind_eq_some_iff.1 h
        have sx : IntKind.i64.wrap (x + 1) = x + 1 := IntWalk.i64_in _ (by omega)
        have sm' : IntKind.i64.wrap (m + 1) = m + 1 := IntWalk.i64_in _ (by omega)
        have m1 : -9223372036854775808 ≤ a + x := by omega
        have m2 : a + x ≤ 9223372036854775807 := by omega
        have m3 : -9223372036854775808 ≤ b + x := by omega
        have m4 : b + x ≤ 9223372036854775807 := by omega
        rcases tk_cases ht with rfl | ⟨rfl, hc⟩ | ⟨rfl, hc⟩
        · rw [if_neg (by decide)] at h
          have HA := Aside0.mk h
          have HT2 := Aside0.mk ht
          clear h ht
          go_wp2_with (go_at_call 79; refine (choice_1 s f B a b x (-1) _ hs hf ha hb ⟨hx, hle⟩ HS.out.map HT2.out IH.out).mono ?_; rintro e w6 ⟨rfl, hm6, hb6⟩; have n0_ := Aside0.mk (HS.out.mean hm6 hb6); have n1_ := Aside0.mk (blk_bx HQ.out hb6 (by omega)); have n2_ := Aside0.mk (blk_bx HR.out hb6 (by omega)); clear HS HQ HR hm6 hb6; have HS := n0_; have HQ := n1_; have HR := n2_; clear n0_ n1_ n2_)
          exact ⟨⟨n', x + 1, m, q, rfl, rfl, by omega, by omega, by omega, by omega, HA, HS, HQ, HR⟩, by simp [intOf]; omega⟩
        · rw [if_pos (by decide)] at h
          simp only [if_true, ite_true] at h
          obtain ⟨r, hr, h⟩ := Option.bind_eq_some_iff.1 h
          have HA := Aside0.mk h
          have HT2 := Aside0.mk ht
          have HP := Aside0.mk hr
          clear h ht hr
          go_wp2_with (go_at_call 79; refine (choice_1 s f B a b x 0 _ hs hf ha hb ⟨hx, hle⟩ HS.out.map HT2.out IH.out).mono ?_; rintro e w6 ⟨rfl, hm6, hb6⟩; have n0_ := Aside0.mk (HS.out.mean hm6 hb6); have n1_ := Aside0.mk (blk_bx HQ.out hb6 (by omega)); have n2_ := Aside0.mk (blk_bx HR.out hb6 (by omega)); clear HS HQ HR hm6 hb6; have HS := n0_; have HQ := n1_; have HR := n2_; clear n0_ n1_ n2_; have q60 : w6.cell? ⟨w4.heap.size + 1, 0, none⟩ = some (.int .i64 q.1) := (blk_cell HQ.out 0).trans rfl; have q61 : w6.cell? ⟨w4.heap.size + 1, 1, none⟩ = some (.int .i64 q.2) := (blk_cell HQ.out 1).trans rfl; have SV := (HS.out).all; have xe0 := SV.2.1; have xe1 := SV.2.2.1; have xe2 := SV.2.2.2.1; have xe3 := SV.2.2.2.2.1; have xe4 := SV.2.2.2.2.2.1; have xe5 := SV.2.2.2.2.2.2; clear SV)
          refine start_ (n := 9) (S := fun W => Sv 1 s f a b chO1 B w W ∧ W.cell? ⟨w4.heap.size + 1, 0, none⟩ = some (.int .i64 q.1) ∧ W.cell? ⟨w4.heap.size + 1, 1, none⟩ = some (.int .i64 q.2)) (ds := [8]) #[false, false, false, false, false, false, false, false, false] (by kernel_rfl) rfl rfl ⟨HS.out.drew.all, (blk_cell (blk_drew HQ.out) 0).trans rfl, (blk_cell (blk_drew HQ.out) 1).trans rfl⟩ (fun hHeld => ?_)
          refine pure_ (i := 3) (N := some 42) (v := ?_) (a' := ?_) #[false, false, false, true, false, false, false, false, false] rfl rfl (by kernel_rfl) (fun _ _ _ h => h) (Or.inl ⟨by rfl, ?_⟩) ?_ ?_
          rotate_left
          · intro w'
            go_simp
            with_reducible rfl
          rotate_left
          · simp only [Act.put, List.setIfInBounds_toArray, List.set_cons_zero, List.set_cons_succ, i64_w, i32_w]
            rfl
          refine pure_ (i := 4) (N := some 43) (v := ?_) (a' := ?_) #[false, false, false, true, true, false, false, false, false] rfl rfl (by kernel_rfl) (fun _ _ _ h => h) (Or.inl ⟨by rfl, ?_⟩) ?_ ?_
          rotate_left
          · intro w'
            go_simp
            with_reducible rfl
          rotate_left
          · simp only [Act.put, List.setIfInBounds_toArray, List.set_cons_zero, List.set_cons_succ, i64_w, i32_w]
            rfl
          refine take_ (i := 0) (N := some 39) (v := ?_) (a' := ?_) #[true, false, false, true, true, false, false, false, false] rfl rfl (by kernel_rfl) (fun _ _ _ h => h) (Or.inl ⟨by rfl, ?_⟩) hHeld ?_ ?_
          rotate_left
          · rintro w' ⟨⟨_, s0, s1, s2, s3, s4, s5⟩, s6, s7⟩
            go_simp
            with_reducible rfl
          rotate_left
          · simp only [Act.put, List.setIfInBounds_toArray, List.set_cons_zero, List.set_cons_succ, i64_w, i32_w]
            rfl
          refine take_ (i := 1) (N := some 40) (v := ?_) (a' := ?_) #[true, true, false, true, true, false, false, false, false] rfl rfl (by kernel_rfl) (fun _ _ _ h => h) (Or.inl ⟨by rfl, ?_⟩) hHeld ?_ ?_
          rotate_left
          · rintro w' ⟨⟨_, s0, s1, s2, s3, s4, s5⟩, s6, s7⟩
            go_simp
            with_reducible rfl
          rotate_left
          · simp only [Act.put, List.setIfInBounds_toArray, List.set_cons_zero, List.set_cons_succ, i64_w, i32_w]
            rfl
          refine take_ (i := 2) (N := some 41) (v := ?_) (a' := ?_) #[true, true, true, true, true, false, false, false, false] rfl rfl (by kernel_rfl) (fun _ _ _ h => h) (Or.inl ⟨by rfl, ?_⟩) hHeld ?_ ?_
          rotate_left
          · rintro w' ⟨⟨_, s0, s1, s2, s3, s4, s5⟩, s6, s7⟩
            go_simp
            with_reducible rfl
          rotate_left
          · simp only [Act.put, List.setIfInBounds_toArray, List.set_cons_zero, List.set_cons_succ, i64_w, i32_w]
            rfl
          refine one_ (i := 5) (N := some 44) #[true, true, true, true, true, true, false, false, false] rfl rfl (by kernel_rfl) (by decide) (fun K hK => ?_)
          refine goes_ Try.func95 (by kernel_rfl) rfl #[tw s f a b, .int .i64 0, .int .i64 x] (by rfl) rfl rfl (by (try simp only [List.map_toArray, List.map_cons, List.map_nil]); first | done | rfl) ?_
          with_reducible refine (twins_moved0 s f a b x m1 m2 m3 m4 _).mono ?_
          rintro e w7 ⟨rfl, hb7⟩
          have HQ7 := Aside0.mk (blk_below (blk_drew HQ.out) hb7)
          refine ⟨_, rfl, ?_⟩
          refine hK.out _ _ ⟨(HS.out.drew.below hb7).all, (blk_cell HQ7.out 0).trans rfl, (blk_cell HQ7.out 1).trans rfl⟩ (fun hHeld => ?_)
          clear hK K
          refine norm_ (a' := ?_) ?_ ?_
          rotate_left
          · show Act.put _ (some 44) _ = _
            simp only [Act.put, List.setIfInBounds_toArray, List.set_cons_zero, List.set_cons_succ, i64_w, i32_w]
            rfl
          refine one_ (i := 6) (N := some 45) #[true, true, true, true, true, true, true, false, false] rfl rfl (by kernel_rfl) (by decide) (fun K hK => ?_)
          refine goes_ Try.func94 (by kernel_rfl) rfl #[.agg #[chO1, .map (some B)], tw s f (a + x) b] (by rfl) rfl rfl (by (try simp only [List.map_toArray, List.map_cons, List.map_nil]); first | done | rfl) ?_
          with_reducible refine (IH.out (a + x) b _ ⟨by omega, hc⟩ hb (by omega) (HS.out.drew.below hb7).map).mono ?_
          rintro e w8 ⟨rfl, hm8, hb8⟩
          have HQ8 := Aside0.mk (blk_bx HQ7.out hb8 (by omega))
          refine ⟨_, rfl, ?_⟩
          refine hK.out _ _ ⟨((HS.out.drew.below hb7).mean hm8 hb8).all, (blk_cell HQ8.out 0).trans rfl, (blk_cell HQ8.out 1).trans rfl⟩ (fun hHeld => ?_)
          clear hK K
          refine norm_ (a' := ?_) ?_ ?_
          rotate_left
          · show Act.put _ (some 45) _ = _
            simp only [Act.put, List.setIfInBounds_toArray, List.set_cons_zero, List.set_cons_succ, i64_w, i32_w]
            rfl
          refine one_ (i := 7) (N := some 46) #[true, true, true, true, true, true, true, true, false] rfl rfl (by kernel_rfl) (by decide) (fun K hK => ?_)
          refine goes_ Try.func118 (by kernel_rfl) rfl #[.agg #[.int .i64 q.1, .int .i64 q.2], frV (mT 1 s f (a + x) b)] (by rfl) rfl rfl (by (try simp only [List.map_toArray, List.map_cons, List.map_nil]); first | done | rfl) ?_
          with_reducible refine (impl_fraction_plus.calls 99 q.1 q.2 _ _ r.1 r.2 _ HP.out).mono ?_
          rintro e w9 ⟨rfl, hb9⟩
          have HQ9 := Aside0.mk (blk_below HQ8.out hb9)
          refine ⟨_, rfl, ?_⟩
          refine hK.out _ _ ⟨(((HS.out.drew.below hb7).mean hm8 hb8).below hb9).all, (blk_cell HQ9.out 0).trans rfl, (blk_cell HQ9.out 1).trans rfl⟩ (fun hHeld => ?_)
          clear hK K
          refine norm_ (a' := ?_) ?_ ?_
          rotate_left
          · show Act.put _ (some 46) _ = _
            simp only [Act.put, List.setIfInBounds_toArray, List.set_cons_zero, List.set_cons_succ, i64_w, i32_w]
            rfl
          refine last_ (i := 8) (N := none) #[true, true, true, true, true, true, true, true, true] rfl rfl (by kernel_rfl) (by decide) (fun K hK => ?_)
          have hs0 := hHeld.2.1
          have hs1 := hHeld.2.2
          have hf0 := blk_frozen HQ9.out 0
          have hf1 := blk_frozen HQ9.out 1
          refine skip_ (w1 := ?_) (by rfl) rfl ?_ ?_
          rotate_left
          · go_simp
            rfl
          refine hK.out _ _ ?_
          clear hK K
          refine done_ (by kernel_rfl) ?_
          try go_wp2
          exact ⟨⟨n', x + 1, m + 1, r, rfl, rfl, by omega, by omega, by omega, by omega, HA, ⟨((((HS.out.drew.below hb7).mean hm8 hb8).below hb9).set (show w.heap.size + 2 ≤ w4.heap.size + 1 by omega) 0 (.int .i64 r.1)).set (show w.heap.size + 2 ≤ w4.heap.size + 1 by omega) 1 (.int .i64 r.2)⟩, ⟨blk_put (blk_put HQ9.out 0 (.int .i64 r.1) rfl) 1 (.int .i64 r.2) rfl⟩, ⟨(Below.heap_setCell _ _ _ _ (show w.heap.size + 1 + 1 ≠ w4.heap.size + 1 by omega)).trans ((Below.heap_setCell _ _ _ _ (show w.heap.size + 1 + 1 ≠ w4.heap.size + 1 by omega)).trans (blk_below (blk_bx (blk_below (blk_drew HR.out) hb7) hb8 (by omega)) hb9))⟩⟩, by simp [intOf]; omega⟩
        · rw [if_pos (by decide)] at h
          simp only [if_neg (show ¬ (1:Int) = 0 by decide)] at h
          obtain ⟨r, hr, h⟩ := Option.bind_eq_some_iff.1 h
          have HA := Aside0.mk h
          have HT2 := Aside0.mk ht
          have HP := Aside0.mk hr
          clear h ht hr
          go_wp2_with (go_at_call 79; refine (choice_1 s f B a b x 1 _ hs hf ha hb ⟨hx, hle⟩ HS.out.map HT2.out IH.out).mono ?_; rintro e w6 ⟨rfl, hm6, hb6⟩; have n0_ := Aside0.mk (HS.out.mean hm6 hb6); have n1_ := Aside0.mk (blk_bx HQ.out hb6 (by omega)); have n2_ := Aside0.mk (blk_bx HR.out hb6 (by omega)); clear HS HQ HR hm6 hb6; have HS := n0_; have HQ := n1_; have HR := n2_; clear n0_ n1_ n2_; have q60 : w6.cell? ⟨w4.heap.size + 1, 0, none⟩ = some (.int .i64 q.1) := (blk_cell HQ.out 0).trans rfl; have q61 : w6.cell? ⟨w4.heap.size + 1, 1, none⟩ = some (.int .i64 q.2) := (blk_cell HQ.out 1).trans rfl; have SV := (HS.out).all; have xe0 := SV.2.1; have xe1 := SV.2.2.1; have xe2 := SV.2.2.2.1; have xe3 := SV.2.2.2.2.1; have xe4 := SV.2.2.2.2.2.1; have xe5 := SV.2.2.2.2.2.2; clear SV)
          refine start_ (n := 9) (S := fun W => Sv 1 s f a b chO1 B w W ∧ W.cell? ⟨w4.heap.size + 1, 0, none⟩ = some (.int .i64 q.1) ∧ W.cell? ⟨w4.heap.size + 1, 1, none⟩ = some (.int .i64 q.2)) (ds := [8]) #[false, false, false, false, false, false, false, false, false] (by kernel_rfl) rfl rfl ⟨HS.out.drew.all, (blk_cell (blk_drew HQ.out) 0).trans rfl, (blk_cell (blk_drew HQ.out) 1).trans rfl⟩ (fun hHeld => ?_)
          refine pure_ (i := 3) (N := some 42) (v := ?_) (a' := ?_) #[false, false, false, true, false, false, false, false, false] rfl rfl (by kernel_rfl) (fun _ _ _ h => h) (Or.inl ⟨by rfl, ?_⟩) ?_ ?_
          rotate_left
          · intro w'
            go_simp
            with_reducible rfl
          rotate_left
          · simp only [Act.put, List.setIfInBounds_toArray, List.set_cons_zero, List.set_cons_succ, i64_w, i32_w]
            rfl
          refine pure_ (i := 4) (N := some 43) (v := ?_) (a' := ?_) #[false, false, false, true, true, false, false, false, false] rfl rfl (by kernel_rfl) (fun _ _ _ h => h) (Or.inl ⟨by rfl, ?_⟩) ?_ ?_
          rotate_left
          · intro w'
            go_simp
            with_reducible rfl
          rotate_left
          · simp only [Act.put, List.setIfInBounds_toArray, List.set_cons_zero, List.set_cons_succ, i64_w, i32_w]
            rfl
          refine take_ (i := 0) (N := some 39) (v := ?_) (a' := ?_) #[true, false, false, true, true, false, false, false, false] rfl rfl (by kernel_rfl) (fun _ _ _ h => h) (Or.inl ⟨by rfl, ?_⟩) hHeld ?_ ?_
          rotate_left
          · rintro w' ⟨⟨_, s0, s1, s2, s3, s4, s5⟩, s6, s7⟩
            go_simp
            with_reducible rfl
          rotate_left
          · simp only [Act.put, List.setIfInBounds_toArray, List.set_cons_zero, List.set_cons_succ, i64_w, i32_w]
            rfl
          refine take_ (i := 1) (N := some 40) (v := ?_) (a' := ?_) #[true, true, false, true, true, false, false, false, false] rfl rfl (by kernel_rfl) (fun _ _ _ h => h) (Or.inl ⟨by rfl, ?_⟩) hHeld ?_ ?_
          rotate_left
          · rintro w' ⟨⟨_, s0, s1, s2, s3, s4, s5⟩, s6, s7⟩
            go_simp
            with_reducible rfl
          rotate_left
          · simp only [Act.put, List.setIfInBounds_toArray, List.set_cons_zero, List.set_cons_succ, i64_w, i32_w]
            rfl
          refine take_ (i := 2) (N := some 41) (v := ?_) (a' := ?_) #[true, true, true, true, true, false, false, false, false] rfl rfl (by kernel_rfl) (fun _ _ _ h => h) (Or.inl ⟨by rfl, ?_⟩) hHeld ?_ ?_
          rotate_left
          · rintro w' ⟨⟨_, s0, s1, s2, s3, s4, s5⟩, s6, s7⟩
            go_simp
            with_reducible rfl
          rotate_left
          · simp only [Act.put, List.setIfInBounds_toArray, List.set_cons_zero, List.set_cons_succ, i64_w, i32_w]
            rfl
          refine one_ (i := 5) (N := some 44) #[true, true, true, true, true, true, false, false, false] rfl rfl (by kernel_rfl) (by decide) (fun K hK => ?_)
          refine goes_ Try.func95 (by kernel_rfl) rfl #[tw s f a b, .int .i64 1, .int .i64 x] (by rfl) rfl rfl (by (try simp only [List.map_toArray, List.map_cons, List.map_nil]); first | done | rfl) ?_
          with_reducible refine (twins_moved1 s f a b x m1 m2 m3 m4 _).mono ?_
          rintro e w7 ⟨rfl, hb7⟩
          have HQ7 := Aside0.mk (blk_below (blk_drew HQ.out) hb7)
          refine ⟨_, rfl, ?_⟩
          refine hK.out _ _ ⟨(HS.out.drew.below hb7).all, (blk_cell HQ7.out 0).trans rfl, (blk_cell HQ7.out 1).trans rfl⟩ (fun hHeld => ?_)
          clear hK K
          refine norm_ (a' := ?_) ?_ ?_
          rotate_left
          · show Act.put _ (some 44) _ = _
            simp only [Act.put, List.setIfInBounds_toArray, List.set_cons_zero, List.set_cons_succ, i64_w, i32_w]
            rfl
          refine one_ (i := 6) (N := some 45) #[true, true, true, true, true, true, true, false, false] rfl rfl (by kernel_rfl) (by decide) (fun K hK => ?_)
          refine goes_ Try.func94 (by kernel_rfl) rfl #[.agg #[chO1, .map (some B)], tw s f a (b + x)] (by rfl) rfl rfl (by (try simp only [List.map_toArray, List.map_cons, List.map_nil]); first | done | rfl) ?_
          with_reducible refine (IH.out a (b + x) _ ha ⟨by omega, hc⟩ (by omega) (HS.out.drew.below hb7).map).mono ?_
          rintro e w8 ⟨rfl, hm8, hb8⟩
          have HQ8 := Aside0.mk (blk_bx HQ7.out hb8 (by omega))
          refine ⟨_, rfl, ?_⟩
          refine hK.out _ _ ⟨((HS.out.drew.below hb7).mean hm8 hb8).all, (blk_cell HQ8.out 0).trans rfl, (blk_cell HQ8.out 1).trans rfl⟩ (fun hHeld => ?_)
          clear hK K
          refine norm_ (a' := ?_) ?_ ?_
          rotate_left
          · show Act.put _ (some 45) _ = _
            simp only [Act.put, List.setIfInBounds_toArray, List.set_cons_zero, List.set_cons_succ, i64_w, i32_w]
            rfl
          refine one_ (i := 7) (N := some 46) #[true, true, true, true, true, true, true, true, false] rfl rfl (by kernel_rfl) (by decide) (fun K hK => ?_)
          refine goes_ Try.func118 (by kernel_rfl) rfl #[.agg #[.int .i64 q.1, .int .i64 q.2], frV (mT 1 s f a (b + x))] (by rfl) rfl rfl (by (try simp only [List.map_toArray, List.map_cons, List.map_nil]); first | done | rfl) ?_
          with_reducible refine (impl_fraction_plus.calls 99 q.1 q.2 _ _ r.1 r.2 _ HP.out).mono ?_
          rintro e w9 ⟨rfl, hb9⟩
          have HQ9 := Aside0.mk (blk_below HQ8.out hb9)
          refine ⟨_, rfl, ?_⟩
          refine hK.out _ _ ⟨(((HS.out.drew.below hb7).mean hm8 hb8).below hb9).all, (blk_cell HQ9.out 0).trans rfl, (blk_cell HQ9.out 1).trans rfl⟩ (fun hHeld => ?_)
          clear hK K
          refine norm_ (a' := ?_) ?_ ?_
          rotate_left
          · show Act.put _ (some 46) _ = _
            simp only [Act.put, List.setIfInBounds_toArray, List.set_cons_zero, List.set_cons_succ, i64_w, i32_w]
            rfl
          refine last_ (i := 8) (N := none) #[true, true, true, true, true, true, true, true, true] rfl rfl (by kernel_rfl) (by decide) (fun K hK => ?_)
          have hs0 := hHeld.2.1
          have hs1 := hHeld.2.2
          have hf0 := blk_frozen HQ9.out 0
          have hf1 := blk_frozen HQ9.out 1
          refine skip_ (w1 := ?_) (by rfl) rfl ?_ ?_
          rotate_left
          · go_simp
            rfl
          refine hK.out _ _ ?_
          clear hK K
          refine done_ (by kernel_rfl) ?_
          try go_wp2
          exact ⟨⟨n', x + 1, m + 1, r, rfl, rfl, by omega, by omega, by omega, by omega, HA, ⟨((((HS.out.drew.below hb7).mean hm8 hb8).below hb9).set (show w.heap.size + 2 ≤ w4.heap.size + 1 by omega) 0 (.int .i64 r.1)).set (show w.heap.size + 2 ≤ w4.heap.size + 1 by omega) 1 (.int .i64 r.2)⟩, ⟨blk_put (blk_put HQ9.out 0 (.int .i64 r.1) rfl) 1 (.int .i64 r.2) rfl⟩, ⟨(Below.heap_setCell _ _ _ _ (show w.heap.size + 1 + 1 ≠ w4.heap.size + 1 by omega)).trans ((Below.heap_setCell _ _ _ _ (show w.heap.size + 1 + 1 ≠ w4.heap.size + 1 by omega)).trans (blk_below (blk_bx (blk_below (blk_drew HR.out) hb7) hb8 (by omega)) hb9))⟩⟩, by simp [intOf]; omega⟩
      · obtain rfl : n = 0 := by omega
        have h := HA.out
        rw [sm] at h
        obtain rfl := Option.some.inj h
        have HV := Aside0.mk (show impl_fraction_over.f 99 q.1 q.2 m 1 = some ((mT 1 s f a b).1, (mT 1 s f a b).2) from HO.out)
        have HL := Aside0.mk (twL_len (f := f) hs)
        clear h
        go_wp2_with (first
          | (go_at_call 151; (with_reducible refine (impl_fraction_over.calls 99 q.1 q.2 m 1 _ _ _ HV.out).mono ?_); rintro e w6 ⟨rfl, hb6⟩; have HS6 := Aside0.mk ((HS.out.below hb6).alloc (.cells #[.int .i64 (mT 1 s f a b).1, .int .i64 (mT 1 s f a b).2] 101)); have HR6 := Aside0.mk (blk_alloc (blk_below HR.out hb6) (.cells #[.int .i64 (mT 1 s f a b).1, .int .i64 (mT 1 s f a b).2] 101)); have HT6 := Aside0.mk (blk_new w6 (.cells #[.int .i64 (mT 1 s f a b).1, .int .i64 (mT 1 s f a b).2] 101)); have SV := (HS6.out).all; have xf0 := SV.2.1; have xf1 := SV.2.2.1; have xf2 := SV.2.2.2.1; have xf3 := SV.2.2.2.2.1; have xf4 := SV.2.2.2.2.2.1; have xf5 := SV.2.2.2.2.2.2; clear SV; have t6c0 := (blk_cell HT6.out 0).trans rfl; have t6f0 := blk_frozen HT6.out 0; have t6c1 := (blk_cell HT6.out 1).trans rfl; have t6f1 := blk_frozen HT6.out 1)
          | (at_mapUpdate; refine wpList_memo_put _ rfl _ _ _ 93 rfl 87 101 tw_law Try.underlying93 (twF 1 s f) (twL s f) B HL.out rfl HS6.out.map _ _ kl rfl rfl HK.out ⟨a, b, ha.1, ha.2, hb.1, hb.2, rfl, rfl⟩ (twL_mem ha hb) ?_; intro w8 hm8 hg8; have HX := (Bx.refl (w6.alloc (.cells #[.int .i64 (mT 1 s f a b).1, .int .i64 (mT 1 s f a b).2] 101)).heap.size B (w6.alloc (.cells #[.int .i64 (mT 1 s f a b).1, .int .i64 (mT 1 s f a b).2] 101))).grown hg8 (Nat.le_refl _); have HS8 := Aside0.mk (HS6.out.mean hm8 HX); have HR8 := Aside0.mk (blk_bx HR6.out HX (by omega)); have HT8 := Aside0.mk (blk_bx HT6.out HX (by have := hb6.size; have := blk_lt HQ.out; omega)); clear HX hm8 hg8; have t8c0 := (blk_cell HT8.out 0).trans rfl; have t8f0 := blk_frozen HT8.out 0; have t8c1 := (blk_cell HT8.out 1).trans rfl; have t8f1 := blk_frozen HT8.out 1; have r8c0 := (blk_cell HR8.out 0).trans rfl; have r8f0 := blk_frozen HR8.out 0; have r8c1 := (blk_cell HR8.out 1).trans rfl; have r8f1 := blk_frozen HR8.out 1))
        refine bodyPost_ret (results_cell_row rfl _ _ (w.heap.size + 1 + 1) 101 #[.int .i64 (mT 1 s f a b).1, .int .i64 (mT 1 s f a b).2] (0, 0) _ rfl (blk_put (blk_put HR8.out 0 (.int .i64 (mT 1 s f a b).1) rfl) 1 (.int .i64 (mT 1 s f a b).2) rfl) Try.underlying101 rfl (by kernel_rfl)) rfl ?_
        have HE := (HS8.out.set (show w.heap.size + 2 ≤ w.heap.size + 1 + 1 by omega) 0 (.int .i64 (mT 1 s f a b).1)).set (show w.heap.size + 2 ≤ w.heap.size + 1 + 1 by omega) 1 (.int .i64 (mT 1 s f a b).2)
        exact ⟨rfl, HE.map, HE.bx⟩
end Go.Proofs.Ytnoejflancomaaa.P
end

section
namespace Go.Proofs.Ytnoejflancomaaa.P
set_option linter.unusedVariables false
set_option linter.unusedSimpArgs false
open Go.RowKit Go.Proofs.YtnoejflancomaaaW.PrintWords Go.Proofs.YtnoejflancomaaaW.PrintLast Go.Proofs.YtnoejflancomaaaW.PrintMore
theorem stAll_1 : stAll 1 = true := by decide +kernel
theorem mean_1 {s f : Int} (B : Nat) (hs : 1 ≤ s ∧ s ≤ 6) (hf : 1 ≤ f ∧ f ≤ 4) : ∀ (p : Nat) (a b : Int) (w : World), 0 ≤ a ∧ a ≤ s → 0 ≤ b ∧ b ≤ s → 2 * s - a - b ≤ p → memo Try.prog 87 (twF 1 s f) (twL s f) B w →
    Calls Try.prog 94 #[.agg #[chO1, .map (some B)], tw s f a b] w fun e w' => e = .returned (frV (mT 1 s f a b)) ∧ memo Try.prog 87 (twF 1 s f) (twL s f) B w' ∧ Bx w.heap.size B w w'
  | 0, a, b, w, ha, hb, hp, hm => mean_step_1 s f B a b w hs hf ha hb hm (stAll_spec stAll_1 hs hf ha hb) (fun a' b' w' ha' hb' h _ => by omega)
  | p + 1, a, b, w, ha, hb, hp, hm => mean_step_1 s f B a b w hs hf ha hb hm (stAll_spec stAll_1 hs hf ha hb) (fun a' b' w' ha' hb' h hm' => mean_1 B hs hf p a' b' w' ha' hb' (by omega) hm')
end Go.Proofs.Ytnoejflancomaaa.P
end

section
namespace Go.Proofs.Ytnoejflancomaaa.P
set_option linter.unusedVariables false
set_option linter.unusedSimpArgs false
open Go.RowKit Go.Proofs.YtnoejflancomaaaW.PrintWords Go.Proofs.YtnoejflancomaaaW.PrintLast Go.Proofs.YtnoejflancomaaaW.PrintMore
attribute [local go_sem] max2_int min2_int max_two min_two max_three min_three max_four min_four
set_option maxHeartbeats 1600000 in
set_option maxRecDepth 100000 in
theorem meanBy_1 (s f a b : Int) (w : World) :
    Calls Try.prog 81 #[.int .i64 s, .int .i64 f, .int .i64 a, .int .i64 b, chO1] w fun e w' => e = .returned (.tuple #[.int .i64 (prR 1 s f a b).1, .int .i64 (prR 1 s f a b).2.1, .bool (prR 1 s f a b).2.2]) ∧ Below w.heap.size w w' := by
  go_enter Try.func81, Try.ntmps81
  have HB := Aside0.mk (Below.refl w.heap.size w)
  by_cases hg : prG s f a b = true
  · have hr : prR 1 s f a b = ((mT 1 s f a b).1, (mT 1 s f a b).2, true) := by simp [prR, hg]
    rw [hr]
    have hg' : (inn s 1 6 && inn f 1 4 && inn a 0 s && inn b 0 s) = true := hg
    obtain ⟨hs, hf, ha, hb⟩ := prG_iff.1 hg
    clear hr hg
    go_wp2_with (go_at_call 75; refine (twins_of s f a b _).mono ?_; rintro e w1 ⟨rfl, hb1⟩; have n0_ := Aside0.mk (bT HB.out hb1); clear HB; have HB := n0_; clear n0_; clear hb1)
    have HG := Aside0.mk (blk_new w1 (.cells #[.int .i64 s, .int .i64 f, .int .i64 a, .int .i64 b] 87))
    have HB2 := Aside0.mk (below_alloc HB.out (.cells #[.int .i64 s, .int .i64 f, .int .i64 a, .int .i64 b] 87)).drew
    have hp : 2 * s - a - b ≤ ((2 * s - a - b).toNat : Int) := by omega
    have E0 := Aside0.mk (show (w1.alloc (.cells #[.int .i64 s, .int .i64 f, .int .i64 a, .int .i64 b] 87)).drew.heap.size + 1 = w1.heap.size + 1 + 1 from congrArg (· + 1) (World.size_alloc _ _))
    have hne : w1.heap.size ≠ w1.heap.size + 1 + 1 := by omega
    go_region_held3 (fun W => Tq s f a b w1.heap.size W) (first | exact tq (blk_drew HG.out) | exact tq (blk_below (blk_drew HG.out) hb3) | exact tq (blk_bx (blk_below (blk_drew HG.out) hb3) hb4 hne) | exact tq (blk_below (blk_bx (blk_below (blk_drew HG.out) hb3) hb4 hne) hb5)) (first
      | (go_at_call 77; (with_reducible refine (twins_new 83 #[] #[] _).mono ?_); rintro e w3 ⟨rfl, hm3, hb3⟩; rw [E0.out] at hm3; (try rw [E0.out]))
      | (go_at_call 94; (with_reducible refine (mean_1 (w1.heap.size + 1 + 1) hs hf (2 * s - a - b).toNat a b _ ha hb hp (memo_empty hm3)).mono ?_); rintro e w4 ⟨rfl, hm4, hb4⟩)
      | (go_at_call 120; (with_reducible refine (told_calls _ _ _).mono ?_); rintro e w5 ⟨rfl, hb5⟩))
    go_wp2
    go_returns
    have g2 := bT HB2.out hb3
    have g3 : Below w.heap.size w w4 := g2.trans ((hb4.mono g2.size).below (by have := HB.out.size; omega))
    exact ⟨rfl, bT g3 hb5⟩
  · have hr : prR 1 s f a b = (0, 0, false) := by simp [prR, hg]
    rw [hr]
    have hg' : (inn s 1 6 && inn f 1 4 && inn a 0 s && inn b 0 s) = false := by simpa [prG] using hg
    clear hr hg
    go_wp2_with (go_at_call 75; refine (twins_of s f a b _).mono ?_; rintro e w1 ⟨rfl, hb1⟩; have n0_ := Aside0.mk (bT HB.out hb1); clear HB; have HB := n0_; clear n0_; clear hb1)
    go_returns
    exact ⟨rfl, below_alloc HB.out _⟩
end Go.Proofs.Ytnoejflancomaaa.P
end

section
namespace Go.Proofs.Ytnoejflancomaaa.P
open Go.RowKit Go.Proofs.YtnoejflancomaaaW.PrintWords Go.Proofs.YtnoejflancomaaaW.PrintLast Go.Proofs.YtnoejflancomaaaW.PrintMore
attribute [local go_sem] max2_int min2_int max_two min_two max_three min_three max_four min_four
set_option linter.unusedVariables false
set_option linter.unusedSimpArgs false
def impl_PairGreatest.f (s f a b : Int) : Option (Int × Int × Bool) := some (prR 1 s f a b)
theorem impl_PairGreatest.calls (s f a b r1 r2 : Int) (r3 : Bool) (w : World) (h : impl_PairGreatest.f s f a b = some (r1, r2, r3)) :
    Calls Try.prog 29 #[.int .i64 s, .int .i64 f, .int .i64 a, .int .i64 b] w fun e w' => e = .returned (.tuple #[.int .i64 r1, .int .i64 r2, .bool r3]) ∧ Below w.heap.size w w' := by
  have e := Option.some.inj h
  have h0 := meanBy_1 s f a b
  rw [e] at h0
  have H0 := Aside0.mk h0
  clear h0 h e
  go_enter Try.func29, Try.ntmps29
  go_wp2_with (go_at_call 81; (with_reducible refine (H0.out _).mono ?_); rintro e w1 ⟨rfl, hb⟩)
  go_returns
  exact ⟨rfl, hb⟩
end Go.Proofs.Ytnoejflancomaaa.P
end

section
namespace Go.Proofs.Ytnoejflancomaaa.P
open Go.RowKit Go.Proofs.YtnoejflancomaaaW.PrintWords Go.Proofs.YtnoejflancomaaaW.PrintLast Go.Proofs.YtnoejflancomaaaW.PrintMore
attribute [local go_sem] max2_int min2_int max_two min_two max_three min_three max_four min_four
set_option linter.unusedVariables false
set_option linter.unusedSimpArgs false
def laws_FnExactPairGreatest.f (k : Nat) (a0 : Int) (a1 : Int) (a2 : Int) (a3 : Int) : Option (Bool) := (spec_PairGreatest.f k a0 a1 a2 a3).bind fun bt344 => ((impl_PairGreatest.f a0 a1 a2 a3).bind fun bt347 => (if bt347.1 = bt344.1 then (if bt347.2.1 = bt344.2.1 then (if (bt347.2.2 != bt344.2.2) = true then (some false) else (some true)) else (some false)) else (some false)))
theorem laws_FnExactPairGreatest.mono : ∀ a0 a1 a2 a3 k, LeO (laws_FnExactPairGreatest.f k a0 a1 a2 a3) (laws_FnExactPairGreatest.f (k + 1) a0 a1 a2 a3) := by
  intro a0 a1 a2 a3 k
  unfold laws_FnExactPairGreatest.f
  repeat' first
      | (with_reducible exact spec_PairGreatest.mono _ _ _ _ _)
      | (with_reducible exact LeO.refl _)
      | (with_reducible exact LeO.none _)
      | (with_reducible refine LeO.ite ?_ ?_)
      | (with_reducible refine LeO.bind ?_ (fun _ => ?_))
      | exact spec_PairGreatest.mono _ _ _ _ _
      | exact LeO.none _
      | refine LeO.ite ?_ ?_
      | refine LeO.bind ?_ (fun _ => ?_)
set_option maxHeartbeats 8000000 in
set_option maxRecDepth 100000 in
theorem laws_FnExactPairGreatest.calls (k : Nat) (a0 : Int) (a1 : Int) (a2 : Int) (a3 : Int) (r : Bool) (w : World) (h : laws_FnExactPairGreatest.f k a0 a1 a2 a3 = some r) :
    Calls Try.prog 7 #[.int .i64 a0, .int .i64 a1, .int .i64 a2, .int .i64 a3] w fun e w' => e = .returned (.bool r) ∧ Below w.heap.size w w' := by
  have HB := Aside0.mk (Below.refl w.heap.size w)
  have H : ((spec_PairGreatest.f k a0 a1 a2 a3).bind fun bt344 => ((impl_PairGreatest.f a0 a1 a2 a3).bind fun bt347 => (if bt347.1 = bt344.1 then (if bt347.2.1 = bt344.2.1 then (if (bt347.2.2 != bt344.2.2) = true then (some false) else (some true)) else (some false)) else (some false)))) = some r := h
  clear h
  replace H := Option.bind_eq_some_iff.mp H
  obtain ⟨⟨t344, t345, t346⟩, A50, H⟩ := H
  replace H : ((impl_PairGreatest.f a0 a1 a2 a3).bind fun bt347 => (if bt347.1 = t344 then (if bt347.2.1 = t345 then (if (bt347.2.2 != t346) = true then (some false) else (some true)) else (some false)) else (some false))) = some r := H
  have A5 := Aside0.mk A50
  clear A50
  replace H := Option.bind_eq_some_iff.mp H
  obtain ⟨⟨t347, t348, t349⟩, A60, H⟩ := H
  replace H : (if t347 = t344 then (if t348 = t345 then (if (t349 != t346) = true then (some false) else (some true)) else (some false)) else (some false)) = some r := H
  have A6 := Aside0.mk A60
  clear A60
  by_cases c7 : t347 = t344
  · rw [if_pos c7] at H
    have c7b0 : (t347 == t344) = true := beq_iff_eq.mpr c7
    have c7b1 : (t347 != t344) = false := bne_eq_false_iff_eq.mpr c7
    clear c7
    by_cases c8 : t348 = t345
    · rw [if_pos c8] at H
      have c8b0 : (t348 == t345) = true := beq_iff_eq.mpr c8
      have c8b1 : (t348 != t345) = false := bne_eq_false_iff_eq.mpr c8
      clear c8
      by_cases c9 : (t349 != t346) = true
      · rw [if_pos c9] at H
        have c9b0 : (t349 != t346) = true := c9
        (try (have c9b1 : decide (t349 = t346) = false := by simpa using c9))
        (try (have c9b2 : (t349 == t346) = false := by simpa using c9))
        (try (have c9b3 : ¬ (t349 = t346) := by simpa using c9))
        clear c9
        obtain rfl := Option.some.inj H
        go_enter Try.func7, Try.ntmps7
        go_wp2_with (first | ((with_reducible refine gate_callee (f := 28) rfl ?_); refine goesL_ (some 20) rfl rfl Try.func28 (by kernel_rfl) rfl #[.int .i64 a0, .int .i64 a1, .int .i64 a2, .int .i64 a3] rfl (by (try simp only [List.map_toArray, List.map_cons, List.map_nil]); first | done | rfl | (simp only [List.length_drop, List.length_take]; rfl)) ?_; (with_reducible refine (spec_PairGreatest.calls k a0 a1 a2 a3 t344 t345 t346 _ A5.out).mono ?_); rintro e w10 ⟨rfl, hb⟩; refine ⟨_, rfl, ?_⟩; have n0_ := Aside0.mk (below_step (by repeat (first | (with_reducible first | exact HB.out | apply below_alloc | apply pw_below_drewN | apply below_drew1) | exact HB.out)) hb); clear HB; have HB := n0_; clear n0_; (try clear hb); (try clear hb2); (try clear hk); (try clear hi)) | ((with_reducible refine gate_callee (f := 29) rfl ?_); refine goesL_ (some 29) rfl rfl Try.func29 (by kernel_rfl) rfl #[.int .i64 a0, .int .i64 a1, .int .i64 a2, .int .i64 a3] rfl (by (try simp only [List.map_toArray, List.map_cons, List.map_nil]); first | done | rfl | (simp only [List.length_drop, List.length_take]; rfl)) ?_; (with_reducible refine (impl_PairGreatest.calls a0 a1 a2 a3 t347 t348 t349 _ A6.out).mono ?_); rintro e w11 ⟨rfl, hb⟩; refine ⟨_, rfl, ?_⟩; have n0_ := Aside0.mk (below_step (by repeat (first | (with_reducible first | exact HB.out | apply below_alloc | apply pw_below_drewN | apply below_drew1) | exact HB.out)) hb); clear HB; have HB := n0_; clear n0_; (try clear hb); (try clear hb2); (try clear hk); (try clear hi)))
        go_ret
        exact ⟨by first | rfl | (simp [errW_none, errW_some] <;> rfl) | (simp [*, errW_none, errW_some] <;> rfl), by repeat (first | (with_reducible first | exact HB.out | apply below_alloc | apply pw_below_drewN | apply below_drew1) | exact HB.out)⟩
      · rw [if_neg c9] at H
        have c9b0 : (t349 != t346) = false := by simpa using c9
        (try (have c9b1 : decide (t349 = t346) = true := by simpa using c9))
        (try (have c9b2 : (t349 == t346) = true := by simpa using c9))
        clear c9
        obtain rfl := Option.some.inj H
        go_enter Try.func7, Try.ntmps7
        go_wp2_with (first | ((with_reducible refine gate_callee (f := 28) rfl ?_); refine goesL_ (some 20) rfl rfl Try.func28 (by kernel_rfl) rfl #[.int .i64 a0, .int .i64 a1, .int .i64 a2, .int .i64 a3] rfl (by (try simp only [List.map_toArray, List.map_cons, List.map_nil]); first | done | rfl | (simp only [List.length_drop, List.length_take]; rfl)) ?_; (with_reducible refine (spec_PairGreatest.calls k a0 a1 a2 a3 t344 t345 t346 _ A5.out).mono ?_); rintro e w12 ⟨rfl, hb⟩; refine ⟨_, rfl, ?_⟩; have n0_ := Aside0.mk (below_step (by repeat (first | (with_reducible first | exact HB.out | apply below_alloc | apply pw_below_drewN | apply below_drew1) | exact HB.out)) hb); clear HB; have HB := n0_; clear n0_; (try clear hb); (try clear hb2); (try clear hk); (try clear hi)) | ((with_reducible refine gate_callee (f := 29) rfl ?_); refine goesL_ (some 29) rfl rfl Try.func29 (by kernel_rfl) rfl #[.int .i64 a0, .int .i64 a1, .int .i64 a2, .int .i64 a3] rfl (by (try simp only [List.map_toArray, List.map_cons, List.map_nil]); first | done | rfl | (simp only [List.length_drop, List.length_take]; rfl)) ?_; (with_reducible refine (impl_PairGreatest.calls a0 a1 a2 a3 t347 t348 t349 _ A6.out).mono ?_); rintro e w13 ⟨rfl, hb⟩; refine ⟨_, rfl, ?_⟩; have n0_ := Aside0.mk (below_step (by repeat (first | (with_reducible first | exact HB.out | apply below_alloc | apply pw_below_drewN | apply below_drew1) | exact HB.out)) hb); clear HB; have HB := n0_; clear n0_; (try clear hb); (try clear hb2); (try clear hk); (try clear hi)))
        go_ret
        exact ⟨by first | rfl | (simp [errW_none, errW_some] <;> rfl) | (simp [*, errW_none, errW_some] <;> rfl), by repeat (first | (with_reducible first | exact HB.out | apply below_alloc | apply pw_below_drewN | apply below_drew1) | exact HB.out)⟩
    · rw [if_neg c8] at H
      have c8b0 : (t348 == t345) = false := beq_eq_false_iff_ne.mpr c8
      have c8b1 : (t348 != t345) = true := bne_iff_ne.mpr c8
      obtain rfl := Option.some.inj H
      go_enter Try.func7, Try.ntmps7
      go_wp2_with (first | ((with_reducible refine gate_callee (f := 28) rfl ?_); refine goesL_ (some 20) rfl rfl Try.func28 (by kernel_rfl) rfl #[.int .i64 a0, .int .i64 a1, .int .i64 a2, .int .i64 a3] rfl (by (try simp only [List.map_toArray, List.map_cons, List.map_nil]); first | done | rfl | (simp only [List.length_drop, List.length_take]; rfl)) ?_; (with_reducible refine (spec_PairGreatest.calls k a0 a1 a2 a3 t344 t345 t346 _ A5.out).mono ?_); rintro e w14 ⟨rfl, hb⟩; refine ⟨_, rfl, ?_⟩; have n0_ := Aside0.mk (below_step (by repeat (first | (with_reducible first | exact HB.out | apply below_alloc | apply pw_below_drewN | apply below_drew1) | exact HB.out)) hb); clear HB; have HB := n0_; clear n0_; (try clear hb); (try clear hb2); (try clear hk); (try clear hi)) | ((with_reducible refine gate_callee (f := 29) rfl ?_); refine goesL_ (some 29) rfl rfl Try.func29 (by kernel_rfl) rfl #[.int .i64 a0, .int .i64 a1, .int .i64 a2, .int .i64 a3] rfl (by (try simp only [List.map_toArray, List.map_cons, List.map_nil]); first | done | rfl | (simp only [List.length_drop, List.length_take]; rfl)) ?_; (with_reducible refine (impl_PairGreatest.calls a0 a1 a2 a3 t347 t348 t349 _ A6.out).mono ?_); rintro e w15 ⟨rfl, hb⟩; refine ⟨_, rfl, ?_⟩; have n0_ := Aside0.mk (below_step (by repeat (first | (with_reducible first | exact HB.out | apply below_alloc | apply pw_below_drewN | apply below_drew1) | exact HB.out)) hb); clear HB; have HB := n0_; clear n0_; (try clear hb); (try clear hb2); (try clear hk); (try clear hi)))
      go_ret
      exact ⟨by first | rfl | (simp [errW_none, errW_some] <;> rfl) | (simp [*, errW_none, errW_some] <;> rfl), by repeat (first | (with_reducible first | exact HB.out | apply below_alloc | apply pw_below_drewN | apply below_drew1) | exact HB.out)⟩
  · rw [if_neg c7] at H
    have c7b0 : (t347 == t344) = false := beq_eq_false_iff_ne.mpr c7
    have c7b1 : (t347 != t344) = true := bne_iff_ne.mpr c7
    obtain rfl := Option.some.inj H
    go_enter Try.func7, Try.ntmps7
    go_wp2_with (first | ((with_reducible refine gate_callee (f := 28) rfl ?_); refine goesL_ (some 20) rfl rfl Try.func28 (by kernel_rfl) rfl #[.int .i64 a0, .int .i64 a1, .int .i64 a2, .int .i64 a3] rfl (by (try simp only [List.map_toArray, List.map_cons, List.map_nil]); first | done | rfl | (simp only [List.length_drop, List.length_take]; rfl)) ?_; (with_reducible refine (spec_PairGreatest.calls k a0 a1 a2 a3 t344 t345 t346 _ A5.out).mono ?_); rintro e w16 ⟨rfl, hb⟩; refine ⟨_, rfl, ?_⟩; have n0_ := Aside0.mk (below_step (by repeat (first | (with_reducible first | exact HB.out | apply below_alloc | apply pw_below_drewN | apply below_drew1) | exact HB.out)) hb); clear HB; have HB := n0_; clear n0_; (try clear hb); (try clear hb2); (try clear hk); (try clear hi)) | ((with_reducible refine gate_callee (f := 29) rfl ?_); refine goesL_ (some 29) rfl rfl Try.func29 (by kernel_rfl) rfl #[.int .i64 a0, .int .i64 a1, .int .i64 a2, .int .i64 a3] rfl (by (try simp only [List.map_toArray, List.map_cons, List.map_nil]); first | done | rfl | (simp only [List.length_drop, List.length_take]; rfl)) ?_; (with_reducible refine (impl_PairGreatest.calls a0 a1 a2 a3 t347 t348 t349 _ A6.out).mono ?_); rintro e w17 ⟨rfl, hb⟩; refine ⟨_, rfl, ?_⟩; have n0_ := Aside0.mk (below_step (by repeat (first | (with_reducible first | exact HB.out | apply below_alloc | apply pw_below_drewN | apply below_drew1) | exact HB.out)) hb); clear HB; have HB := n0_; clear n0_; (try clear hb); (try clear hb2); (try clear hk); (try clear hi)))
    go_ret
    exact ⟨by first | rfl | (simp [errW_none, errW_some] <;> rfl) | (simp [*, errW_none, errW_some] <;> rfl), by repeat (first | (with_reducible first | exact HB.out | apply below_alloc | apply pw_below_drewN | apply below_drew1) | exact HB.out)⟩
def laws_FnExactPairGreatest.Pure : Prop := ∀ (a0 : Int) (a1 : Int) (a2 : Int) (a3 : Int), (Lit.int .i64 a0).wf = true → (Lit.int .i64 a1).wf = true → (Lit.int .i64 a2).wf = true → (Lit.int .i64 a3).wf = true → ∃ k, laws_FnExactPairGreatest.f k a0 a1 a2 a3 = some true
theorem laws_FnExactPairGreatest.walk (P : laws_FnExactPairGreatest.Pure) (a0 : Int) (a1 : Int) (a2 : Int) (a3 : Int) (w : World) (w0 : (Lit.int .i64 a0).wf = true) (w1 : (Lit.int .i64 a1).wf = true) (w2 : (Lit.int .i64 a2).wf = true) (w3 : (Lit.int .i64 a3).wf = true) :
    Calls Try.prog 7 #[.int .i64 a0, .int .i64 a1, .int .i64 a2, .int .i64 a3] w fun e w' => e = .returned (.bool true) ∧ Below w.heap.size w w' := by
  obtain ⟨k, h⟩ := P a0 a1 a2 a3 w0 w1 w2 w3
  refine (laws_FnExactPairGreatest.calls k a0 a1 a2 a3 true w h).mono ?_
  rintro e w' ⟨rfl, hd⟩
  exact ⟨rfl, hd⟩
end Go.Proofs.Ytnoejflancomaaa.P
end
