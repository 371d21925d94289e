/- FnExactPairChoice: the reference's table of choices and the program's choices agree, for all pairs and faces there are. -/
import Derived.Test.YtnoejflancomaaaFnExactPairChoicec2
section
namespace Go.Proofs.Ytnoejflancomaaa.P
set_option linter.unusedVariables false
set_option linter.unusedSimpArgs false
open Go.RowKit Go.Proofs.YtnoejflancomaaaW.PrintWords Go.Proofs.YtnoejflancomaaaW.PrintLast Go.Proofs.YtnoejflancomaaaW.PrintMore
attribute [local go_sem] max2_int min2_int max_two min_two max_three min_three max_four min_four
theorem pk_cases {ru : Nat} {a b : Int} {X Y : Int × Int} {t : Int} (h : pk ru a b X Y = some t) : t = 0 ∨ t = 1 := by
  unfold pk at h
  split at h
  · obtain ⟨c, _, rfl⟩ := Option.map_eq_some_iff.1 h
    by_cases hc : c < 0 <;> simp [hc]
  · obtain ⟨c, _, rfl⟩ := Option.map_eq_some_iff.1 h
    by_cases hc : 0 < c <;> simp [hc]
  · by_cases hc : b ≤ a <;> simp [hc] at h <;> omega
  · by_cases hc : b ≤ a <;> simp [hc] at h <;> omega
theorem tk_cases {ru : Nat} {s f a b x t : Int} (h : tk ru s f a b x = some t) : t = -1 ∨ (t = 0 ∧ a + x ≤ s) ∨ (t = 1 ∧ b + x ≤ s) := by
  unfold tk at h
  by_cases c1 : a + x ≤ s
  · by_cases c2 : b + x ≤ s
    · rw [if_pos c1, if_pos c2] at h
      rcases pk_cases h with rfl | rfl
      · exact Or.inr (Or.inl ⟨rfl, c1⟩)
      · exact Or.inr (Or.inr ⟨rfl, c2⟩)
    · rw [if_pos c1, if_neg c2] at h
      exact Or.inr (Or.inl ⟨(Option.some.inj h).symm, c1⟩)
  · by_cases c2 : b + x ≤ s
    · rw [if_neg c1, if_pos c2] at h
      exact Or.inr (Or.inr ⟨(Option.some.inj h).symm, c2⟩)
    · rw [if_neg c1, if_neg c2] at h
      exact Or.inl (Option.some.inj h).symm
theorem twL_mem {s f a b : Int} (ha : 0 ≤ a ∧ a ≤ s) (hb : 0 ≤ b ∧ b ≤ s) : tw s f a b ∈ twL s f := by
  unfold twL
  rw [List.mem_flatMap]
  refine ⟨a.toNat, List.mem_range.2 (by omega), List.mem_map.2 ⟨b.toNat, List.mem_range.2 (by omega), ?_⟩⟩
  have e1 : (a.toNat : Int) = a := by omega
  have e2 : (b.toNat : Int) = b := by omega
  simp only [e1, e2]
theorem twL_len {s f : Int} (hs : 1 ≤ s ∧ s ≤ 6) : (twL s f).length < maxLen := by
  have h : s.toNat ≤ 6 := by omega
  have e : (twL s f).length = (s.toNat + 1) * (s.toNat + 1) := by simp [twL, List.length_flatMap, List.map_const', List.sum_replicate_nat]
  rw [e]
  have := Nat.mul_le_mul (show s.toNat + 1 ≤ 7 by omega) (show s.toNat + 1 ≤ 7 by omega)
  unfold maxLen
  omega
theorem twF_val {ru : Nat} {s f a b : Int} {v : Value} (h : twF ru s f (tw s f a b) v) : v = frV (mT ru s f a b) := by
  obtain ⟨a', b', _, _, _, _, e, rfl⟩ := h
  simp only [Value.agg.injEq, Array.mk.injEq, List.cons.injEq, Value.int.injEq, true_and, and_true] at e
  obtain ⟨rfl, rfl⟩ := e
  rfl
set_option maxHeartbeats 8000000 in
set_option maxRecDepth 100000 in
theorem mean_step_0 (s f : Int) (B : Nat) (a b : Int) (w : World) (hs : 1 ≤ s ∧ s ≤ 6) (hf : 1 ≤ f ∧ f ≤ 4) (ha : 0 ≤ a ∧ a ≤ s) (hb : 0 ≤ b ∧ b ≤ s)
    (hm : memo Try.prog 87 (twF 0 s f) (twL s f) B w) (hst : stO 0 s f a b = some (mT 0 s f a b))
    (ih : ∀ (a' b' : Int) (w : World), 0 ≤ a' ∧ a' ≤ s → 0 ≤ b' ∧ b' ≤ s → a' + b' > a + b → memo Try.prog 87 (twF 0 s f) (twL s f) B w →
      Calls Try.prog 94 #[.agg #[chO, .map (some B)], tw s f a' b'] w fun e w' => e = .returned (frV (mT 0 s f a' b')) ∧ memo Try.prog 87 (twF 0 s f) (twL s f) B w' ∧ Bx w.heap.size B w w') :
    Calls Try.prog 94 #[.agg #[chO, .map (some B)], tw s f a b] w fun e w' => e = .returned (frV (mT 0 s f a b)) ∧ memo Try.prog 87 (twF 0 s f) (twL s f) B w' ∧ Bx w.heap.size B w w' := by
  have hlt := hm.lt
  have HT := Aside0.mk hst
  clear hst
  have IH := Aside0.mk ih
  have hsc := @store_func Try.prog (.func 78) #[] #[]
  have HW := Aside0.mk (⟨((hm.alloc (.cells #[chO, .map (some B)] 95)).alloc (.cells #[.int .i64 s, .int .i64 f, .int .i64 a, .int .i64 b] 87)).alloc (.cells #[.int .i64 0, .int .i64 0] 101),
    bx_of (below_alloc (below_alloc (below_alloc (Below.refl w.heap.size w) _) _) _), blk_alloc (blk_alloc (blk_new w _) _) _,
    blk_alloc (by have h := blk_new (w.alloc (.cells #[chO, .map (some B)] 95)) (.cells #[.int .i64 s, .int .i64 f, .int .i64 a, .int .i64 b] 87); rw [World.size_alloc] at h; exact h) _, hlt⟩ :
    Sw 0 s f a b chO B w (((w.alloc (.cells #[chO, .map (some B)] 95)).alloc (.cells #[.int .i64 s, .int .i64 f, .int .i64 a, .int .i64 b] 87)).alloc (.cells #[.int .i64 0, .int .i64 0] 101)))
  have HR := Aside0.mk (by have h := blk_new ((w.alloc (.cells #[chO, .map (some B)] 95)).alloc (.cells #[.int .i64 s, .int .i64 f, .int .i64 a, .int .i64 b] 87)) (.cells #[.int .i64 0, .int .i64 0] 101); rw [World.size_alloc, World.size_alloc] at h; exact h :
    (((w.alloc (.cells #[chO, .map (some B)] 95)).alloc (.cells #[.int .i64 s, .int .i64 f, .int .i64 a, .int .i64 b] 87)).alloc (.cells #[.int .i64 0, .int .i64 0] 101)).heap[w.heap.size + 1 + 1]? = some (.cells #[.int .i64 0, .int .i64 0] 101 (0, 0)))
  clear ih hm
  go_enter Try.func94, Try.ntmps94
  by_cases hd : a = s ∧ b = s
  · have hd1 : (decide (a = s) && decide (b = s)) = true := by simp [hd]
    have hv : mT 0 s f a b = (0, 1) := by
      have hst := HT.out
      unfold stO at hst
      rw [if_pos hd] at hst
      exact (Option.some.inj hst).symm
    have HV := Aside0.mk hv
    clear hv
    clear hd
    go_wp2_with (go_at_call 150; refine (twins_isDone s f a b _).mono ?_; rintro e w4 ⟨rfl, hb4⟩; have n0_ := Aside0.mk (HW.out.below hb4); have n1_ := Aside0.mk (blk_below HR.out hb4); clear HW HR hb4; have HW := n0_; have HR := n1_; clear n0_ n1_; have y0 := (blk_cell HR.out 0).trans rfl; have y1 := (blk_cell HR.out 1).trans rfl; have z0 := blk_frozen HR.out 0; have z1 := blk_frozen HR.out 1)
    refine bodyPost_ret (results_cell_row rfl _ _ (w.heap.size + 1 + 1) 101 #[.int .i64 0, .int .i64 1] (0, 0) _ rfl (blk_put (blk_put HR.out 0 (.int .i64 0) rfl) 1 (.int .i64 1) rfl) Try.underlying101 rfl (by kernel_rfl)) rfl ?_
    have HE := (HW.out.set (show w.heap.size + 2 ≤ w.heap.size + 1 + 1 by omega) 0 (.int .i64 0)).set (show w.heap.size + 2 ≤ w.heap.size + 1 + 1 by omega) 1 (.int .i64 1)
    exact ⟨by rw [HV.out], HE.map, HE.bx⟩
  · have hd1 : (decide (a = s) && decide (b = s)) = false := by simp only [Bool.and_eq_false_iff, decide_eq_false_iff_not]; omega
    obtain ⟨kl, hkl⟩ := tw_key s f a b (WalkArith.wf_i64 (by omega)) (WalkArith.wf_i64 (by omega)) (WalkArith.wf_i64 (by omega)) (WalkArith.wf_i64 (by omega))
    have zE : ∀ w : World, (zeroValue 101).run Try.prog w = .ok (.agg #[.int .i64 0, .int .i64 0]) w := fun w => by kernel_rfl
    have HD := Aside0.mk hd
    have HZ := Aside0.mk zE
    have HK := Aside0.mk hkl
    clear hd zE hkl
    go_wp2_with (first
      | (go_at_call 150; refine (twins_isDone s f a b _).mono ?_; rintro e w4 ⟨rfl, hb4⟩; have n0_ := Aside0.mk (HW.out.below hb4); have n1_ := Aside0.mk (blk_below HR.out hb4); clear HW HR hb4; have HW := n0_; have HR := n1_; clear n0_ n1_; have SV := HW.out.all; have x0 := SV.2.1; have x1 := SV.2.2.1; have x2 := SV.2.2.2.1; have x3 := SV.2.2.2.2.1; have x4 := SV.2.2.2.2.2.1; have x5 := SV.2.2.2.2.2.2; clear SV)
      | (at_lookup; have SV := (HW.out.alloc (.cells #[.int .i64 0, .int .i64 0] 101)).all; have xa0 := SV.2.1; have xa1 := SV.2.2.1; have xa2 := SV.2.2.2.1; have xa3 := SV.2.2.2.2.1; have xa4 := SV.2.2.2.2.2.1; have xa5 := SV.2.2.2.2.2.2; clear SV; have SV := (HW.out.alloc (.cells #[.int .i64 (mT 0 s f a b).1, .int .i64 (mT 0 s f a b).2] 101)).all; have xb0 := SV.2.1; have xb1 := SV.2.2.1; have xb2 := SV.2.2.2.1; have xb3 := SV.2.2.2.2.1; have xb4 := SV.2.2.2.2.2.1; have xb5 := SV.2.2.2.2.2.2; clear SV; have SV := ((HW.out.alloc (.cells #[.int .i64 0, .int .i64 0] 101)).alloc (.cells #[.int .i64 0, .int .i64 0] 101)).all; have xc0 := SV.2.1; have xc1 := SV.2.2.1; have xc2 := SV.2.2.2.1; have xc3 := SV.2.2.2.2.1; have xc4 := SV.2.2.2.2.2.1; have xc5 := SV.2.2.2.2.2.2; clear SV; have SV := ((HW.out.alloc (.cells #[.int .i64 0, .int .i64 0] 101)).alloc (.cells #[.int .i64 f, .int .i64 1] 101)).all; have xd0 := SV.2.1; have xd1 := SV.2.2.1; have xd2 := SV.2.2.2.1; have xd3 := SV.2.2.2.2.1; have xd4 := SV.2.2.2.2.2.1; have xd5 := SV.2.2.2.2.2.2; clear SV; have y0 := (blk_cell (blk_alloc HR.out (.cells #[.int .i64 (mT 0 s f a b).1, .int .i64 (mT 0 s f a b).2] 101)) 0).trans rfl; have y1 := (blk_cell (blk_alloc HR.out (.cells #[.int .i64 (mT 0 s f a b).1, .int .i64 (mT 0 s f a b).2] 101)) 1).trans rfl; have z0 := blk_frozen (blk_alloc HR.out (.cells #[.int .i64 (mT 0 s f a b).1, .int .i64 (mT 0 s f a b).2] 101)) 0; have z1 := blk_frozen (blk_alloc HR.out (.cells #[.int .i64 (mT 0 s f a b).1, .int .i64 (mT 0 s f a b).2] 101)) 1; refine wpList_memo_look _ rfl _ _ 93 rfl 87 101 tw_law Try.underlying93 (HZ.out _) (twF 0 s f) (twL s f) B rfl HW.out.map _ kl rfl HK.out ?_ ?h1; (case h1 => intro v hv; have hv := twF_val hv; subst hv; go_wp2; refine bodyPost_ret (results_cell_row rfl _ _ (w.heap.size + 1 + 1) 101 #[.int .i64 (mT 0 s f a b).1, .int .i64 (mT 0 s f a b).2] (0, 0) _ rfl (blk_put (blk_put (blk_alloc HR.out _) 0 (.int .i64 (mT 0 s f a b).1) rfl) 1 (.int .i64 (mT 0 s f a b).2) rfl) Try.underlying101 rfl (by kernel_rfl)) rfl ?_; have HE := ((HW.out.alloc (.cells #[.int .i64 (mT 0 s f a b).1, .int .i64 (mT 0 s f a b).2] 101)).set (show w.heap.size + 2 ≤ w.heap.size + 1 + 1 by omega) 0 (.int .i64 (mT 0 s f a b).1)).set (show w.heap.size + 2 ≤ w.heap.size + 1 + 1 by omega) 1 (.int .i64 (mT 0 s f a b).2); exact ⟨rfl, HE.map, HE.bx⟩)))
    have hg : w.heap.size + 2 < w4.heap.size := blk_lt HR.out
    have HS := Aside0.mk ((HW.out.alloc (.cells #[.int .i64 0, .int .i64 0] 101)).alloc (.cells #[.int .i64 f, .int .i64 1] 101))
    have HQ := Aside0.mk (by have h := blk_new (w4.alloc (.cells #[.int .i64 0, .int .i64 0] 101)) (.cells #[.int .i64 f, .int .i64 1] 101); rw [World.size_alloc] at h; exact h : ((w4.alloc (.cells #[.int .i64 0, .int .i64 0] 101)).alloc (.cells #[.int .i64 f, .int .i64 1] 101)).heap[w4.heap.size + 1]? = some (.cells #[.int .i64 f, .int .i64 1] 101 (0, 0)))
    have HR := Aside0.mk (blk_alloc (blk_alloc HR.out (.cells #[.int .i64 0, .int .i64 0] 101)) (.cells #[.int .i64 f, .int .i64 1] 101))
    obtain ⟨R, hR, hover⟩ := Option.bind_eq_some_iff.1 (show ((sm 0 s f a b f.toNat 1 (f, 1) 0).bind fun r => impl_fraction_over.f 99 r.1.1 r.1.2 r.2 1) = some (mT 0 s f a b) by have h := HT.out; unfold stO at h; rwa [if_neg HD.out] at h)
    have HO := Aside0.mk hover
    have HA := Aside0.mk hR
    clear hover hR
    go_loopw [8, 9] (fun v8 v9 wr => ∃ (n : Nat) (x m : Int) (q : Int × Int), v8 = .int .i64 m ∧ v9 = .int .i64 x ∧ x + n = f + 1 ∧ 1 ≤ x ∧ 0 ≤ m ∧ m < x ∧ Aside0 (sm 0 s f a b n x q m = some R) ∧ Aside0 (Sw 0 s f a b chO B w wr) ∧ Aside0 (wr.heap[w4.heap.size + 1]? = some (.cells #[.int .i64 q.1, .int .i64 q.2] 101 (0, 0))) ∧ Aside0 (wr.heap[w.heap.size + 1 + 1]? = some (.cells #[.int .i64 0, .int .i64 0] 101 (0, 0)))) (fun _ v _ => (f + 1 - intOf v).toNat)
    case atStart => exact ⟨f.toNat, 1, 0, (f, 1), rfl, rfl, by omega, by omega, by omega, by omega, HA, HS, HQ, HR⟩
    case round =>
      obtain ⟨n, x, m, q, rfl, rfl, hn, hx, hm0, hm1, HA, HS, HQ, HR⟩ := hrel
      have hBl : B < w.heap.size := hlt
      have SV := (HS.out).all
      have xr0 := SV.2.1
      have xr1 := SV.2.2.1
      have xr2 := SV.2.2.2.1
      have xr3 := SV.2.2.2.2.1
      have xr4 := SV.2.2.2.2.2.1
      have xr5 := SV.2.2.2.2.2.2
      clear SV
      have qr0 : wr.cell? ⟨w4.heap.size + 1, 0, none⟩ = some (.int .i64 q.1) := (blk_cell HQ.out 0).trans rfl
      have qr1 : wr.cell? ⟨w4.heap.size + 1, 1, none⟩ = some (.int .i64 q.2) := (blk_cell HQ.out 1).trans rfl
      by_cases hle : x ≤ f
      · obtain ⟨n', rfl⟩ : ∃ n' : Nat, n = n' + 1 := ⟨n - 1, by omega⟩
        have h := HA.out
        rw [sm] at h
        obtain ⟨t, ht, h⟩ := Option.bind_eq_some_iff.1 h
        have sx : IntKind.i64.wrap (x + 1) = x + 1 := IntWalk.i64_in _ (by omega)
        have sm' : IntKind.i64.wrap (m + 1) = m + 1 := IntWalk.i64_in _ (by omega)
        have m1 : -9223372036854775808 ≤ a + x := by omega
        have m2 : a + x ≤ 9223372036854775807 := by omega
        have m3 : -9223372036854775808 ≤ b + x := by omega
        have m4 : b + x ≤ 9223372036854775807 := by omega
        rcases tk_cases ht with rfl | ⟨rfl, hc⟩ | ⟨rfl, hc⟩
        · rw [if_neg (by decide)] at h
          have HA := Aside0.mk h
          have HT2 := Aside0.mk ht
          clear h ht
          go_wp2_with (go_at_call 79; refine (choice_0 s f B a b x (-1) _ hs hf ha hb ⟨hx, hle⟩ HS.out.map HT2.out IH.out).mono ?_; rintro e w6 ⟨rfl, hm6, hb6⟩; have n0_ := Aside0.mk (HS.out.mean hm6 hb6); have n1_ := Aside0.mk (blk_bx HQ.out hb6 (by omega)); have n2_ := Aside0.mk (blk_bx HR.out hb6 (by omega)); clear HS HQ HR hm6 hb6; have HS := n0_; have HQ := n1_; have HR := n2_; clear n0_ n1_ n2_)
          exact ⟨⟨n', x + 1, m, q, rfl, rfl, by omega, by omega, by omega, by omega, HA, HS, HQ, HR⟩, by simp [intOf]; omega⟩
        · rw [if_pos (by decide)] at h
          simp only [if_true, ite_true] at h
          obtain ⟨r, hr, h⟩ := Option.bind_eq_some_iff.1 h
          have HA := Aside0.mk h
          have HT2 := Aside0.mk ht
          have HP := Aside0.mk hr
          clear h ht hr
          go_wp2_with (go_at_call 79; refine (choice_0 s f B a b x 0 _ hs hf ha hb ⟨hx, hle⟩ HS.out.map HT2.out IH.out).mono ?_; rintro e w6 ⟨rfl, hm6, hb6⟩; have n0_ := Aside0.mk (HS.out.mean hm6 hb6); have n1_ := Aside0.mk (blk_bx HQ.out hb6 (by omega)); have n2_ := Aside0.mk (blk_bx HR.out hb6 (by omega)); clear HS HQ HR hm6 hb6; have HS := n0_; have HQ := n1_; have HR := n2_; clear n0_ n1_ n2_; have q60 : w6.cell? ⟨w4.heap.size + 1, 0, none⟩ = some (.int .i64 q.1) := (blk_cell HQ.out 0).trans rfl; have q61 : w6.cell? ⟨w4.heap.size + 1, 1, none⟩ = some (.int .i64 q.2) := (blk_cell HQ.out 1).trans rfl; have SV := (HS.out).all; have xe0 := SV.2.1; have xe1 := SV.2.2.1; have xe2 := SV.2.2.2.1; have xe3 := SV.2.2.2.2.1; have xe4 := SV.2.2.2.2.2.1; have xe5 := SV.2.2.2.2.2.2; clear SV)
          refine start_ (n := 9) (S := fun W => Sv 0 s f a b chO B w W ∧ W.cell? ⟨w4.heap.size + 1, 0, none⟩ = some (.int .i64 q.1) ∧ W.cell? ⟨w4.heap.size + 1, 1, none⟩ = some (.int .i64 q.2)) (ds := [8]) #[false, false, false, false, false, false, false, false, false] (by kernel_rfl) rfl rfl ⟨HS.out.drew.all, (blk_cell (blk_drew HQ.out) 0).trans rfl, (blk_cell (blk_drew HQ.out) 1).trans rfl⟩ (fun hHeld => ?_)
          refine pure_ (i := 3) (N := some 42) (v := ?_) (a' := ?_) #[false, false, false, true, false, false, false, false, false] rfl rfl (by kernel_rfl) (fun _ _ _ h => h) (Or.inl ⟨by rfl, ?_⟩) ?_ ?_
          rotate_left
          · intro w'
            go_simp
            with_reducible rfl
          rotate_left
          · simp only [Act.put, List.setIfInBounds_toArray, List.set_cons_zero, List.set_cons_succ, i64_w, i32_w]
            rfl
          refine pure_ (i := 4) (N := some 43) (v := ?_) (a' := ?_) #[false, false, false, true, true, false, false, false, false] rfl rfl (by kernel_rfl) (fun _ _ _ h => h) (Or.inl ⟨by rfl, ?_⟩) ?_ ?_
          rotate_left
          · intro w'
            go_simp
            with_reducible rfl
          rotate_left
          · simp only [Act.put, List.setIfInBounds_toArray, List.set_cons_zero, List.set_cons_succ, i64_w, i32_w]
            rfl
          refine take_ (i := 0) (N := some 39) (v := ?_) (a' := ?_) #[true, false, false, true, true, false, false, false, false] rfl rfl (by kernel_rfl) (fun _ _ _ h => h) (Or.inl ⟨by rfl, ?_⟩) hHeld ?_ ?_
          rotate_left
          · rintro w' ⟨⟨_, s0, s1, s2, s3, s4, s5⟩, s6, s7⟩
            go_simp
            with_reducible rfl
          rotate_left
          · simp only [Act.put, List.setIfInBounds_toArray, List.set_cons_zero, List.set_cons_succ, i64_w, i32_w]
            rfl
          refine take_ (i := 1) (N := some 40) (v := ?_) (a' := ?_) #[true, true, false, true, true, false, false, false, false] rfl rfl (by kernel_rfl) (fun _ _ _ h => h) (Or.inl ⟨by rfl, ?_⟩) hHeld ?_ ?_
          rotate_left
          · rintro w' ⟨⟨_, s0, s1, s2, s3, s4, s5⟩, s6, s7⟩
            go_simp
            with_reducible rfl
          rotate_left
          · simp only [Act.put, List.setIfInBounds_toArray, List.set_cons_zero, List.set_cons_succ, i64_w, i32_w]
            rfl
          refine take_ (i := 2) (N := some 41) (v := ?_) (a' := ?_) #[true, true, true, true, true, false, false, false, false] rfl rfl (by kernel_rfl) (fun _ _ _ h => h) (Or.inl ⟨by rfl, ?_⟩) hHeld ?_ ?_
          rotate_left
          · rintro w' ⟨⟨_, s0, s1, s2, s3, s4, s5⟩, s6, s7⟩
            go_simp
            with_reducible rfl
          rotate_left
          · simp only [Act.put, List.setIfInBounds_toArray, List.set_cons_zero, List.set_cons_succ, i64_w, i32_w]
            rfl
          refine one_ (i := 5) (N := some 44) #[true, true, true, true, true, true, false, false, false] rfl rfl (by kernel_rfl) (by decide) (fun K hK => ?_)
          refine goes_ Try.func95 (by kernel_rfl) rfl #[tw s f a b, .int .i64 0, .int .i64 x] (by rfl) rfl rfl (by (try simp only [List.map_toArray, List.map_cons, List.map_nil]); first | done | rfl) ?_
          with_reducible refine (twins_moved0 s f a b x m1 m2 m3 m4 _).mono ?_
          rintro e w7 ⟨rfl, hb7⟩
          have HQ7 := Aside0.mk (blk_below (blk_drew HQ.out) hb7)
          refine ⟨_, rfl, ?_⟩
          refine hK.out _ _ ⟨(HS.out.drew.below hb7).all, (blk_cell HQ7.out 0).trans rfl, (blk_cell HQ7.out 1).trans rfl⟩ (fun hHeld => ?_)
          clear hK K
          refine norm_ (a' := ?_) ?_ ?_
          rotate_left
          · show Act.put _ (some 44) _ = _
            simp only [Act.put, List.setIfInBounds_toArray, List.set_cons_zero, List.set_cons_succ, i64_w, i32_w]
            rfl
          refine one_ (i := 6) (N := some 45) #[true, true, true, true, true, true, true, false, false] rfl rfl (by kernel_rfl) (by decide) (fun K hK => ?_)
          refine goes_ Try.func94 (by kernel_rfl) rfl #[.agg #[chO, .map (some B)], tw s f (a + x) b] (by rfl) rfl rfl (by (try simp only [List.map_toArray, List.map_cons, List.map_nil]); first | done | rfl) ?_
          with_reducible refine (IH.out (a + x) b _ ⟨by omega, hc⟩ hb (by omega) (HS.out.drew.below hb7).map).mono ?_
          rintro e w8 ⟨rfl, hm8, hb8⟩
          have HQ8 := Aside0.mk (blk_bx HQ7.out hb8 (by omega))
          refine ⟨_, rfl, ?_⟩
          refine hK.out _ _ ⟨((HS.out.drew.below hb7).mean hm8 hb8).all, (blk_cell HQ8.out 0).trans rfl, (blk_cell HQ8.out 1).trans rfl⟩ (fun hHeld => ?_)
          clear hK K
          refine norm_ (a' := ?_) ?_ ?_
          rotate_left
          · show Act.put _ (some 45) _ = _
            simp only [Act.put, List.setIfInBounds_toArray, List.set_cons_zero, List.set_cons_succ, i64_w, i32_w]
            rfl
          refine one_ (i := 7) (N := some 46) #[true, true, true, true, true, true, true, true, false] rfl rfl (by kernel_rfl) (by decide) (fun K hK => ?_)
          refine goes_ Try.func118 (by kernel_rfl) rfl #[.agg #[.int .i64 q.1, .int .i64 q.2], frV (mT 0 s f (a + x) b)] (by rfl) rfl rfl (by (try simp only [List.map_toArray, List.map_cons, List.map_nil]); first | done | rfl) ?_
          with_reducible refine (impl_fraction_plus.calls 99 q.1 q.2 _ _ r.1 r.2 _ HP.out).mono ?_
          rintro e w9 ⟨rfl, hb9⟩
          have HQ9 := Aside0.mk (blk_below HQ8.out hb9)
          refine ⟨_, rfl, ?_⟩
          refine hK.out _ _ ⟨(((HS.out.drew.below hb7).mean hm8 hb8).below hb9).all, (blk_cell HQ9.out 0).trans rfl, (blk_cell HQ9.out 1).trans rfl⟩ (fun hHeld => ?_)
          clear hK K
          refine norm_ (a' := ?_) ?_ ?_
          rotate_left
          · show Act.put _ (some 46) _ = _
            simp only [Act.put, List.setIfInBounds_toArray, List.set_cons_zero, List.set_cons_succ, i64_w, i32_w]
            rfl
          refine last_ (i := 8) (N := none) #[true, true, true, true, true, true, true, true, true] rfl rfl (by kernel_rfl) (by decide) (fun K hK => ?_)
          have hs0 := hHeld.2.1
          have hs1 := hHeld.2.2
          have hf0 := blk_frozen HQ9.out 0
          have hf1 := blk_frozen HQ9.out 1
          refine skip_ (w1 := ?_) (by rfl) rfl ?_ ?_
          rotate_left
          · go_simp
            rfl
          refine hK.out _ _ ?_
          clear hK K
          refine done_ (by kernel_rfl) ?_
          try go_wp2
          exact ⟨⟨n', x + 1, m + 1, r, rfl, rfl, by omega, by omega, by omega, by omega, HA, ⟨((((HS.out.drew.below hb7).mean hm8 hb8).below hb9).set (show w.heap.size + 2 ≤ w4.heap.size + 1 by omega) 0 (.int .i64 r.1)).set (show w.heap.size + 2 ≤ w4.heap.size + 1 by omega) 1 (.int .i64 r.2)⟩, ⟨blk_put (blk_put HQ9.out 0 (.int .i64 r.1) rfl) 1 (.int .i64 r.2) rfl⟩, ⟨(Below.heap_setCell _ _ _ _ (show w.heap.size + 1 + 1 ≠ w4.heap.size + 1 by omega)).trans ((Below.heap_setCell _ _ _ _ (show w.heap.size + 1 + 1 ≠ w4.heap.size + 1 by omega)).trans (blk_below (blk_bx (blk_below (blk_drew HR.out) hb7) hb8 (by omega)) hb9))⟩⟩, by simp [intOf]; omega⟩
        · rw [if_pos (by decide)] at h
          simp only [if_neg (show ¬ (1:Int) = 0 by decide)] at h
          obtain ⟨r, hr, h⟩ := Option.bind_eq_some_iff.1 h
          have HA := Aside0.mk h
          have HT2 := Aside0.mk ht
          have HP := Aside0.mk hr
          clear h ht hr
          go_wp2_with (go_at_call 79; refine (choice_0 s f B a b x 1 _ hs hf ha hb ⟨hx, hle⟩ HS.out.map HT2.out IH.out).mono ?_; rintro e w6 ⟨rfl, hm6, hb6⟩; have n0_ := Aside0.mk (HS.out.mean hm6 hb6); have n1_ := Aside0.mk (blk_bx HQ.out hb6 (by omega)); have n2_ := Aside0.mk (blk_bx HR.out hb6 (by omega)); clear HS HQ HR hm6 hb6; have HS := n0_; have HQ := n1_; have HR := n2_; clear n0_ n1_ n2_; have q60 : w6.cell? ⟨w4.heap.size + 1, 0, none⟩ = some (.int .i64 q.1) := (blk_cell HQ.out 0).trans rfl; have q61 : w6.cell? ⟨w4.heap.size + 1, 1, none⟩ = some (.int .i64 q.2) := (blk_cell HQ.out 1).trans rfl; have SV := (HS.out).all; have xe0 := SV.2.1; have xe1 := SV.2.2.1; have xe2 := SV.2.2.2.1; have xe3 := SV.2.2.2.2.1; have xe4 := SV.2.2.2.2.2.1; have xe5 := SV.2.2.2.2.2.2; clear SV)
          refine start_ (n := 9) (S := fun W => Sv 0 s f a b chO B w W ∧ W.cell? ⟨w4.heap.size + 1, 0, none⟩ = some (.int .i64 q.1) ∧ W.cell? ⟨w4.heap.size + 1, 1, none⟩ = some (.int .i64 q.2)) (ds := [8]) #[false, false, false, false, false, false, false, false, false] (by kernel_rfl) rfl rfl ⟨HS.out.drew.all, (blk_cell (blk_drew HQ.out) 0).trans rfl, (blk_cell (blk_drew HQ.out) 1).trans rfl⟩ (fun hHeld => ?_)
          refine pure_ (i := 3) (N := some 42) (v := ?_) (a' := ?_) #[false, false, false, true, false, false, false, false, false] rfl rfl (by kernel_rfl) (fun _ _ _ h => h) (Or.inl ⟨by rfl, ?_⟩) ?_ ?_
          rotate_left
          · intro w'
            go_simp
            with_reducible rfl
          rotate_left
          · simp only [Act.put, List.setIfInBounds_toArray, List.set_cons_zero, List.set_cons_succ, i64_w, i32_w]
            rfl
          refine pure_ (i := 4) (N := some 43) (v := ?_) (a' := ?_) #[false, false, false, true, true, false, false, false, false] rfl rfl (by kernel_rfl) (fun _ _ _ h => h) (Or.inl ⟨by rfl, ?_⟩) ?_ ?_
          rotate_left
          · intro w'
            go_simp
            with_reducible rfl
          rotate_left
          · simp only [Act.put, List.setIfInBounds_toArray, List.set_cons_zero, List.set_cons_succ, i64_w, i32_w]
            rfl
          refine take_ (i := 0) (N := some 39) (v := ?_) (a' := ?_) #[true, false, false, true, true, false, false, false, false] rfl rfl (by kernel_rfl) (fun _ _ _ h => h) (Or.inl ⟨by rfl, ?_⟩) hHeld ?_ ?_
          rotate_left
          · rintro w' ⟨⟨_, s0, s1, s2, s3, s4, s5⟩, s6, s7⟩
            go_simp
            with_reducible rfl
          rotate_left
          · simp only [Act.put, List.setIfInBounds_toArray, List.set_cons_zero, List.set_cons_succ, i64_w, i32_w]
            rfl
          refine take_ (i := 1) (N := some 40) (v := ?_) (a' := ?_) #[true, true, false, true, true, false, false, false, false] rfl rfl (by kernel_rfl) (fun _ _ _ h => h) (Or.inl ⟨by rfl, ?_⟩) hHeld ?_ ?_
          rotate_left
          · rintro w' ⟨⟨_, s0, s1, s2, s3, s4, s5⟩, s6, s7⟩
            go_simp
            with_reducible rfl
          rotate_left
          · simp only [Act.put, List.setIfInBounds_toArray, List.set_cons_zero, List.set_cons_succ, i64_w, i32_w]
            rfl
          refine take_ (i := 2) (N := some 41) (v := ?_) (a' := ?_) #[true, true, true, true, true, false, false, false, false] rfl rfl (by kernel_rfl) (fun _ _ _ h => h) (Or.inl ⟨by rfl, ?_⟩) hHeld ?_ ?_
          rotate_left
          · rintro w' ⟨⟨_, s0, s1, s2, s3, s4, s5⟩, s6, s7⟩
            go_simp
            with_reducible rfl
          rotate_left
          · simp only [Act.put, List.setIfInBounds_toArray, List.set_cons_zero, List.set_cons_succ, i64_w, i32_w]
            rfl
          refine one_ (i := 5) (N := some 44) #[true, true, true, true, true, true, false, false, false] rfl rfl (by kernel_rfl) (by decide) (fun K hK => ?_)
          refine goes_ Try.func95 (by kernel_rfl) rfl #[tw s f a b, .int .i64 1, .int .i64 x] (by rfl) rfl rfl (by (try simp only [List.map_toArray, List.map_cons, List.map_nil]); first | done | rfl) ?_
          with_reducible refine (twins_moved1 s f a b x m1 m2 m3 m4 _).mono ?_
          rintro e w7 ⟨rfl, hb7⟩
          have HQ7 := Aside0.mk (blk_below (blk_drew HQ.out) hb7)
          refine ⟨_, rfl, ?_⟩
          refine hK.out _ _ ⟨(HS.out.drew.below hb7).all, (blk_cell HQ7.out 0).trans rfl, (blk_cell HQ7.out 1).trans rfl⟩ (fun hHeld => ?_)
          clear hK K
          refine norm_ (a' := ?_) ?_ ?_
          rotate_left
          · show Act.put _ (some 44) _ = _
            simp only [Act.put, List.setIfInBounds_toArray, List.set_cons_zero, List.set_cons_succ, i64_w, i32_w]
            rfl
          refine one_ (i := 6) (N := some 45) #[true, true, true, true, true, true, true, false, false] rfl rfl (by kernel_rfl) (by decide) (fun K hK => ?_)
          refine goes_ Try.func94 (by kernel_rfl) rfl #[.agg #[chO, .map (some B)], tw s f a (b + x)] (by rfl) rfl rfl (by (try simp only [List.map_toArray, List.map_cons, List.map_nil]); first | done | rfl) ?_
          with_reducible refine (IH.out a (b + x) _ ha ⟨by omega, hc⟩ (by omega) (HS.out.drew.below hb7).map).mono ?_
          rintro e w8 ⟨rfl, hm8, hb8⟩
          have HQ8 := Aside0.mk (blk_bx HQ7.out hb8 (by omega))
          refine ⟨_, rfl, ?_⟩
          refine hK.out _ _ ⟨((HS.out.drew.below hb7).mean hm8 hb8).all, (blk_cell HQ8.out 0).trans rfl, (blk_cell HQ8.out 1).trans rfl⟩ (fun hHeld => ?_)
          clear hK K
          refine norm_ (a' := ?_) ?_ ?_
          rotate_left
          · show Act.put _ (some 45) _ = _
            simp only [Act.put, List.setIfInBounds_toArray, List.set_cons_zero, List.set_cons_succ, i64_w, i32_w]
            rfl
          refine one_ (i := 7) (N := some 46) #[true, true, true, true, true, true, true, true, false] rfl rfl (by kernel_rfl) (by decide) (fun K hK => ?_)
          refine goes_ Try.func118 (by kernel_rfl) rfl #[.agg #[.int .i64 q.1, .int .i64 q.2], frV (mT 0 s f a (b + x))] (by rfl) rfl rfl (by (try simp only [List.map_toArray, List.map_cons, List.map_nil]); first | done | rfl) ?_
          with_reducible refine (impl_fraction_plus.calls 99 q.1 q.2 _ _ r.1 r.2 _ HP.out).mono ?_
          rintro e w9 ⟨rfl, hb9⟩
          have HQ9 := Aside0.mk (blk_below HQ8.out hb9)
          refine ⟨_, rfl, ?_⟩
          refine hK.out _ _ ⟨(((HS.out.drew.below hb7).mean hm8 hb8).below hb9).all, (blk_cell HQ9.out 0).trans rfl, (blk_cell HQ9.out 1).trans rfl⟩ (fun hHeld => ?_)
          clear hK K
          refine norm_ (a' := ?_) ?_ ?_
          rotate_left
          · show Act.put _ (some 46) _ = _
            simp only [Act.put, List.setIfInBounds_toArray, List.set_cons_zero, List.set_cons_succ, i64_w, i32_w]
            rfl
          refine last_ (i := 8) (N := none) #[true, true, true, true, true, true, true, true, true] rfl rfl (by kernel_rfl) (by decide) (fun K hK => ?_)
          have hs0 := hHeld.2.1
          have hs1 := hHeld.2.2
          have hf0 := blk_frozen HQ9.out 0
          have hf1 := blk_frozen HQ9.out 1
          refine skip_ (w1 := ?_) (by rfl) rfl ?_ ?_
          rotate_left
          · go_simp
            rfl
          refine hK.out _ _ ?_
          clear hK K
          refine done_ (by kernel_rfl) ?_
          try go_wp2
          exact ⟨⟨n', x + 1, m + 1, r, rfl, rfl, by omega, by omega, by omega, by omega, HA, ⟨((((HS.out.drew.below hb7).mean hm8 hb8).below hb9).set (show w.heap.size + 2 ≤ w4.heap.size + 1 by omega) 0 (.int .i64 r.1)).set (show w.heap.size + 2 ≤ w4.heap.size + 1 by omega) 1 (.int .i64 r.2)⟩, ⟨blk_put (blk_put HQ9.out 0 (.int .i64 r.1) rfl) 1 (.int .i64 r.2) rfl⟩, ⟨(Below.heap_setCell _ _ _ _ (show w.heap.size + 1 + 1 ≠ w4.heap.size + 1 by omega)).trans ((Below.heap_setCell _ _ _ _ (show w.heap.size + 1 + 1 ≠ w4.heap.size + 1 by omega)).trans (blk_below (blk_bx (blk_below (blk_drew HR.out) hb7) hb8 (by omega)) hb9))⟩⟩, by simp [intOf]; omega⟩
      · obtain rfl : n = 0 := by omega
        have h := HA.out
        rw [sm] at h
        obtain rfl := Option.some.inj h
        have HV := Aside0.mk (show impl_fraction_over.f 99 q.1 q.2 m 1 = some ((mT 0 s f a b).1, (mT 0 s f a b).2) from HO.out)
        have HL := Aside0.mk (twL_len (f := f) hs)
        clear h
        go_wp2_with (first
          | (go_at_call 151; (with_reducible refine (impl_fraction_over.calls 99 q.1 q.2 m 1 _ _ _ HV.out).mono ?_); rintro e w6 ⟨rfl, hb6⟩; have HS6 := Aside0.mk ((HS.out.below hb6).alloc (.cells #[.int .i64 (mT 0 s f a b).1, .int .i64 (mT 0 s f a b).2] 101)); have HR6 := Aside0.mk (blk_alloc (blk_below HR.out hb6) (.cells #[.int .i64 (mT 0 s f a b).1, .int .i64 (mT 0 s f a b).2] 101)); have HT6 := Aside0.mk (blk_new w6 (.cells #[.int .i64 (mT 0 s f a b).1, .int .i64 (mT 0 s f a b).2] 101)); have SV := (HS6.out).all; have xf0 := SV.2.1; have xf1 := SV.2.2.1; have xf2 := SV.2.2.2.1; have xf3 := SV.2.2.2.2.1; have xf4 := SV.2.2.2.2.2.1; have xf5 := SV.2.2.2.2.2.2; clear SV; have t6c0 := (blk_cell HT6.out 0).trans rfl; have t6f0 := blk_frozen HT6.out 0; have t6c1 := (blk_cell HT6.out 1).trans rfl; have t6f1 := blk_frozen HT6.out 1)
          | (at_mapUpdate; refine wpList_memo_put _ rfl _ _ _ 93 rfl 87 101 tw_law Try.underlying93 (twF 0 s f) (twL s f) B HL.out rfl HS6.out.map _ _ kl rfl rfl HK.out ⟨a, b, ha.1, ha.2, hb.1, hb.2, rfl, rfl⟩ (twL_mem ha hb) ?_; intro w8 hm8 hg8; have HX := (Bx.refl (w6.alloc (.cells #[.int .i64 (mT 0 s f a b).1, .int .i64 (mT 0 s f a b).2] 101)).heap.size B (w6.alloc (.cells #[.int .i64 (mT 0 s f a b).1, .int .i64 (mT 0 s f a b).2] 101))).grown hg8 (Nat.le_refl _); have HS8 := Aside0.mk (HS6.out.mean hm8 HX); have HR8 := Aside0.mk (blk_bx HR6.out HX (by omega)); have HT8 := Aside0.mk (blk_bx HT6.out HX (by have := hb6.size; have := blk_lt HQ.out; omega)); clear HX hm8 hg8; have t8c0 := (blk_cell HT8.out 0).trans rfl; have t8f0 := blk_frozen HT8.out 0; have t8c1 := (blk_cell HT8.out 1).trans rfl; have t8f1 := blk_frozen HT8.out 1; have r8c0 := (blk_cell HR8.out 0).trans rfl; have r8f0 := blk_frozen HR8.out 0; have r8c1 := (blk_cell HR8.out 1).trans rfl; have r8f1 := blk_frozen HR8.out 1))
        refine bodyPost_ret (results_cell_row rfl _ _ (w.heap.size + 1 + 1) 101 #[.int .i64 (mT 0 s f a b).1, .int .i64 (mT 0 s f a b).2] (0, 0) _ rfl (blk_put (blk_put HR8.out 0 (.int .i64 (mT 0 s f a b).1) rfl) 1 (.int .i64 (mT 0 s f a b).2) rfl) Try.underlying101 rfl (by kernel_rfl)) rfl ?_
        have HE := (HS8.out.set (show w.heap.size + 2 ≤ w.heap.size + 1 + 1 by omega) 0 (.int .i64 (mT 0 s f a b).1)).set (show w.heap.size + 2 ≤ w.heap.size + 1 + 1 by omega) 1 (.int .i64 (mT 0 s f a b).2)
        exact ⟨rfl, HE.map, HE.bx⟩
end Go.Proofs.Ytnoejflancomaaa.P
end

section
namespace Go.Proofs.Ytnoejflancomaaa.P
set_option linter.unusedVariables false
set_option linter.unusedSimpArgs false
open Go.RowKit Go.Proofs.YtnoejflancomaaaW.PrintWords Go.Proofs.YtnoejflancomaaaW.PrintLast Go.Proofs.YtnoejflancomaaaW.PrintMore
def stAll (ru : Nat) : Bool := (List.range 6).all fun s => (List.range 4).all fun f => (List.range (s + 2)).all fun a => (List.range (s + 2)).all fun b =>
  stO ru ((s + 1 : Nat) : Int) ((f + 1 : Nat) : Int) (a : Int) (b : Int) == some (mT ru ((s + 1 : Nat) : Int) ((f + 1 : Nat) : Int) (a : Int) (b : Int))
theorem stAll_spec {ru : Nat} (h : stAll ru = true) {s f a b : Int} (hs : 1 ≤ s ∧ s ≤ 6) (hf : 1 ≤ f ∧ f ≤ 4) (ha : 0 ≤ a ∧ a ≤ s) (hb : 0 ≤ b ∧ b ≤ s) : stO ru s f a b = some (mT ru s f a b) := by
  unfold stAll at h
  have h1 := List.all_eq_true.1 h (s.toNat - 1) (List.mem_range.2 (by omega))
  have h2 := List.all_eq_true.1 h1 (f.toNat - 1) (List.mem_range.2 (by omega))
  have h3 := List.all_eq_true.1 h2 a.toNat (List.mem_range.2 (by omega))
  have h4 := List.all_eq_true.1 h3 b.toNat (List.mem_range.2 (by omega))
  have h5 := eq_of_beq h4
  have e1 : ((s.toNat - 1 + 1 : Nat) : Int) = s := by omega
  have e2 : ((f.toNat - 1 + 1 : Nat) : Int) = f := by omega
  have e3 : (a.toNat : Int) = a := by omega
  have e4 : (b.toNat : Int) = b := by omega
  rw [e1, e2, e3, e4] at h5
  exact h5
theorem stAll_0 : stAll 0 = true := by decide +kernel
theorem mean_0 {s f : Int} (B : Nat) (hs : 1 ≤ s ∧ s ≤ 6) (hf : 1 ≤ f ∧ f ≤ 4) : ∀ (p : Nat) (a b : Int) (w : World), 0 ≤ a ∧ a ≤ s → 0 ≤ b ∧ b ≤ s → 2 * s - a - b ≤ p → memo Try.prog 87 (twF 0 s f) (twL s f) B w →
    Calls Try.prog 94 #[.agg #[chO, .map (some B)], tw s f a b] w fun e w' => e = .returned (frV (mT 0 s f a b)) ∧ memo Try.prog 87 (twF 0 s f) (twL s f) B w' ∧ Bx w.heap.size B w w'
  | 0, a, b, w, ha, hb, hp, hm => mean_step_0 s f B a b w hs hf ha hb hm (stAll_spec stAll_0 hs hf ha hb) (fun a' b' w' ha' hb' h _ => by omega)
  | p + 1, a, b, w, ha, hb, hp, hm => mean_step_0 s f B a b w hs hf ha hb hm (stAll_spec stAll_0 hs hf ha hb) (fun a' b' w' ha' hb' h hm' => mean_0 B hs hf p a' b' w' ha' hb' (by omega) hm')
end Go.Proofs.Ytnoejflancomaaa.P
end

section
namespace Go.Proofs.Ytnoejflancomaaa.P
open Go.RowKit Go.Proofs.YtnoejflancomaaaW.PrintWords Go.Proofs.YtnoejflancomaaaW.PrintLast Go.Proofs.YtnoejflancomaaaW.PrintMore
attribute [local go_sem] max2_int min2_int max_two min_two max_three min_three max_four min_four
set_option linter.unusedVariables false
set_option linter.unusedSimpArgs false
def impl_fraction_told.f (a0_0 : Int) (a0_1 : Int) : Option (Int × Int × Bool) := some (a0_0, a0_1, true)
set_option maxHeartbeats 8000000 in
set_option maxRecDepth 100000 in
theorem impl_fraction_told.calls (a0_0 : Int) (a0_1 : Int) (r1 : Int) (r2 : Int) (r3 : Bool) (w : World) (h : impl_fraction_told.f a0_0 a0_1 = some (r1, r2, r3)) :
    Calls Try.prog 120 #[.agg #[.int .i64 a0_0, .int .i64 a0_1]] w fun e w' => e = .returned (.tuple #[.int .i64 r1, .int .i64 r2, .bool r3]) ∧ Below w.heap.size w w' := by
  have hu101 := Try.underlying101
  have HB := Aside0.mk (Below.refl w.heap.size w)
  have H : (some (a0_0, a0_1, true)) = some (r1, r2, r3) := h
  clear h
  simp only [Option.some.injEq, Prod.mk.injEq] at H
  obtain ⟨rfl, rfl, rfl⟩ := H
  go_enter Try.func120, Try.ntmps120
  go_wp2_with (first | ((with_reducible refine gate_dst (N := 1) rfl ?_); refine box_event ?hg (N := 1) ?hd (cs := #[.int .i64 a0_0, .int .i64 a0_1]) (t := 101) ?hr ?_; (case hd => rfl); (case hg => rfl); (case hr => first | (go_simp; done) | (go_simp; rfl)); intro gb334 hg w2 hbox hb; have n0_ := Aside0.mk (below_step (by repeat (first | (with_reducible first | exact HB.out | apply below_alloc | apply pw_below_drewN | apply below_drew1) | exact HB.out)) hb); have n1_ := Aside0.mk (hbox); have n2_ := Aside0.mk ((by rw [hg]; exact (below_size (by repeat (first | (with_reducible first | exact HB.out | apply below_alloc | apply pw_below_drewN | apply below_drew1) | exact HB.out))) : w.heap.size ≤ gb334)); have n3_ := Aside0.mk ((by rw [hg]; exact (below_size (by repeat (first | (with_reducible first | exact HB.out | apply below_alloc | apply pw_below_drewN | apply below_drew1) | exact HB.out))) : w.heap.size ≤ gb334)); clear HB; have HB := n0_; have BK334 := n1_; have GW334 := n2_; have GE334 := n3_; clear n0_ n1_ n2_ n3_; clear hb hbox hg; have hcz3_0 : w2.cell? ⟨gb334, 0, none⟩ = some (.int .i64 a0_0) := (blk_cell BK334.out 0).trans rfl; have hcz3_1 : w2.cell? ⟨gb334, 1, none⟩ = some (.int .i64 a0_1) := (blk_cell BK334.out 1).trans rfl; have hfz3_0 := blk_frozen BK334.out 0; have hfz3_1 := blk_frozen BK334.out 1))
  repeat (go_quiet (first | ((with_reducible refine gate_dst (N := 1) rfl ?_); refine box_event ?hg (N := 1) ?hd (cs := #[.int .i64 a0_0, .int .i64 a0_1]) (t := 101) ?hr ?_; (case hd => rfl); (case hg => rfl); (case hr => first | (go_simp; done) | (go_simp; rfl)); intro gb334 hg w2 hbox hb; have n0_ := Aside0.mk (below_step (by repeat (first | (with_reducible first | exact HB.out | apply below_alloc | apply pw_below_drewN | apply below_drew1) | exact HB.out)) hb); have n1_ := Aside0.mk (hbox); have n2_ := Aside0.mk ((by rw [hg]; exact (below_size (by repeat (first | (with_reducible first | exact HB.out | apply below_alloc | apply pw_below_drewN | apply below_drew1) | exact HB.out))) : w.heap.size ≤ gb334)); have n3_ := Aside0.mk ((by rw [hg]; exact (below_size (by repeat (first | (with_reducible first | exact HB.out | apply below_alloc | apply pw_below_drewN | apply below_drew1) | exact HB.out))) : w.heap.size ≤ gb334)); clear HB; have HB := n0_; have BK334 := n1_; have GW334 := n2_; have GE334 := n3_; clear n0_ n1_ n2_ n3_; clear hb hbox hg; have hcz3_0 : w2.cell? ⟨gb334, 0, none⟩ = some (.int .i64 a0_0) := (blk_cell BK334.out 0).trans rfl; have hcz3_1 : w2.cell? ⟨gb334, 1, none⟩ = some (.int .i64 a0_1) := (blk_cell BK334.out 1).trans rfl; have hfz3_0 := blk_frozen BK334.out 0; have hfz3_1 := blk_frozen BK334.out 1)); try go_wp2_with (first | ((with_reducible refine gate_dst (N := 1) rfl ?_); refine box_event ?hg (N := 1) ?hd (cs := #[.int .i64 a0_0, .int .i64 a0_1]) (t := 101) ?hr ?_; (case hd => rfl); (case hg => rfl); (case hr => first | (go_simp; done) | (go_simp; rfl)); intro gb334 hg w2 hbox hb; have n0_ := Aside0.mk (below_step (by repeat (first | (with_reducible first | exact HB.out | apply below_alloc | apply pw_below_drewN | apply below_drew1) | exact HB.out)) hb); have n1_ := Aside0.mk (hbox); have n2_ := Aside0.mk ((by rw [hg]; exact (below_size (by repeat (first | (with_reducible first | exact HB.out | apply below_alloc | apply pw_below_drewN | apply below_drew1) | exact HB.out))) : w.heap.size ≤ gb334)); have n3_ := Aside0.mk ((by rw [hg]; exact (below_size (by repeat (first | (with_reducible first | exact HB.out | apply below_alloc | apply pw_below_drewN | apply below_drew1) | exact HB.out))) : w.heap.size ≤ gb334)); clear HB; have HB := n0_; have BK334 := n1_; have GW334 := n2_; have GE334 := n3_; clear n0_ n1_ n2_ n3_; clear hb hbox hg; have hcz3_0 : w2.cell? ⟨gb334, 0, none⟩ = some (.int .i64 a0_0) := (blk_cell BK334.out 0).trans rfl; have hcz3_1 : w2.cell? ⟨gb334, 1, none⟩ = some (.int .i64 a0_1) := (blk_cell BK334.out 1).trans rfl; have hfz3_0 := blk_frozen BK334.out 0; have hfz3_1 := blk_frozen BK334.out 1)))
  go_ret3
  exact ⟨by first | rfl | (simp [errW_none, errW_some] <;> rfl) | (simp [*, errW_none, errW_some] <;> rfl), by repeat (first | (with_reducible first | exact HB.out | apply below_alloc | apply pw_below_drewN | apply below_drew1 | refine below_set ?_ GE334.out) | exact HB.out)⟩
end Go.Proofs.Ytnoejflancomaaa.P
end

section
namespace Go.Proofs.Ytnoejflancomaaa.P
set_option linter.unusedVariables false
set_option linter.unusedSimpArgs false
open Go.RowKit Go.Proofs.YtnoejflancomaaaW.PrintWords Go.Proofs.YtnoejflancomaaaW.PrintLast Go.Proofs.YtnoejflancomaaaW.PrintMore
attribute [local go_sem] max2_int min2_int max_two min_two max_three min_three max_four min_four
def prG (s f a b : Int) : Bool := inn s 1 6 && inn f 1 4 && inn a 0 s && inn b 0 s
theorem prG_iff {s f a b : Int} : prG s f a b = true ↔ (1 ≤ s ∧ s ≤ 6) ∧ (1 ≤ f ∧ f ≤ 4) ∧ (0 ≤ a ∧ a ≤ s) ∧ (0 ≤ b ∧ b ≤ s) := by
  simp only [prG, Bool.and_eq_true, inn_iff, and_assoc]
theorem memo_empty {P : Program} {k : TypeId} {F : Value → Value → Prop} {L : List Value} {b : Nat} {w : World} (h : w.heap[b]? = some (.map #[] 0)) : memo P k F L b w :=
  ⟨#[], 0, h, ⟨by simp, MapKept.stamped_empty 0, by simp⟩, by simp⟩
def prR (ru : Nat) (s f a b : Int) : Int × Int × Bool := if prG s f a b then ((mT ru s f a b).1, (mT ru s f a b).2, true) else (0, 0, false)
theorem told_calls (x y : Int) (w : World) : Calls Try.prog 120 #[.agg #[.int .i64 x, .int .i64 y]] w fun e w' => e = .returned (.tuple #[.int .i64 x, .int .i64 y, .bool true]) ∧ Below w.heap.size w w' := impl_fraction_told.calls x y x y true w rfl
abbrev Tq (s f a b : Int) (g : Nat) (W : World) : Prop :=
  Aside0 (W.heap[g]? = some (.cells #[.int .i64 s, .int .i64 f, .int .i64 a, .int .i64 b] 87 (0, 0))) ∧ W.cell? ⟨g, 0, none⟩ = some (.int .i64 s) ∧ W.cell? ⟨g, 1, none⟩ = some (.int .i64 f) ∧ W.cell? ⟨g, 2, none⟩ = some (.int .i64 a) ∧ W.cell? ⟨g, 3, none⟩ = some (.int .i64 b)
theorem tq {s f a b : Int} {g : Nat} {W : World} (h : W.heap[g]? = some (.cells #[.int .i64 s, .int .i64 f, .int .i64 a, .int .i64 b] 87 (0, 0))) : Tq s f a b g W :=
  ⟨⟨h⟩, (blk_cell h 0).trans rfl, (blk_cell h 1).trans rfl, (blk_cell h 2).trans rfl, (blk_cell h 3).trans rfl⟩
set_option maxHeartbeats 1600000 in
set_option maxRecDepth 100000 in
theorem meanBy_0 (s f a b : Int) (w : World) :
    Calls Try.prog 81 #[.int .i64 s, .int .i64 f, .int .i64 a, .int .i64 b, chO] w fun e w' => e = .returned (.tuple #[.int .i64 (prR 0 s f a b).1, .int .i64 (prR 0 s f a b).2.1, .bool (prR 0 s f a b).2.2]) ∧ Below w.heap.size w w' := by
  go_enter Try.func81, Try.ntmps81
  have HB := Aside0.mk (Below.refl w.heap.size w)
  by_cases hg : prG s f a b = true
  · have hr : prR 0 s f a b = ((mT 0 s f a b).1, (mT 0 s f a b).2, true) := by simp [prR, hg]
    rw [hr]
    have hg' : (inn s 1 6 && inn f 1 4 && inn a 0 s && inn b 0 s) = true := hg
    obtain ⟨hs, hf, ha, hb⟩ := prG_iff.1 hg
    clear hr hg
    go_wp2_with (go_at_call 75; refine (twins_of s f a b _).mono ?_; rintro e w1 ⟨rfl, hb1⟩; have n0_ := Aside0.mk (bT HB.out hb1); clear HB; have HB := n0_; clear n0_; clear hb1)
    have HG := Aside0.mk (blk_new w1 (.cells #[.int .i64 s, .int .i64 f, .int .i64 a, .int .i64 b] 87))
    have HB2 := Aside0.mk (below_alloc HB.out (.cells #[.int .i64 s, .int .i64 f, .int .i64 a, .int .i64 b] 87)).drew
    have hp : 2 * s - a - b ≤ ((2 * s - a - b).toNat : Int) := by omega
    have E0 := Aside0.mk (show (w1.alloc (.cells #[.int .i64 s, .int .i64 f, .int .i64 a, .int .i64 b] 87)).drew.heap.size + 1 = w1.heap.size + 1 + 1 from congrArg (· + 1) (World.size_alloc _ _))
    have hne : w1.heap.size ≠ w1.heap.size + 1 + 1 := by omega
    go_region_held3 (fun W => Tq s f a b w1.heap.size W) (first | exact tq (blk_drew HG.out) | exact tq (blk_below (blk_drew HG.out) hb3) | exact tq (blk_bx (blk_below (blk_drew HG.out) hb3) hb4 hne) | exact tq (blk_below (blk_bx (blk_below (blk_drew HG.out) hb3) hb4 hne) hb5)) (first
      | (go_at_call 77; (with_reducible refine (twins_new 78 #[] #[] _).mono ?_); rintro e w3 ⟨rfl, hm3, hb3⟩; rw [E0.out] at hm3; (try rw [E0.out]))
      | (go_at_call 94; (with_reducible refine (mean_0 (w1.heap.size + 1 + 1) hs hf (2 * s - a - b).toNat a b _ ha hb hp (memo_empty hm3)).mono ?_); rintro e w4 ⟨rfl, hm4, hb4⟩)
      | (go_at_call 120; (with_reducible refine (told_calls _ _ _).mono ?_); rintro e w5 ⟨rfl, hb5⟩))
    go_wp2
    go_returns
    have g2 := bT HB2.out hb3
    have g3 : Below w.heap.size w w4 := g2.trans ((hb4.mono g2.size).below (by have := HB.out.size; omega))
    exact ⟨rfl, bT g3 hb5⟩
  · have hr : prR 0 s f a b = (0, 0, false) := by simp [prR, hg]
    rw [hr]
    have hg' : (inn s 1 6 && inn f 1 4 && inn a 0 s && inn b 0 s) = false := by simpa [prG] using hg
    clear hr hg
    go_wp2_with (go_at_call 75; refine (twins_of s f a b _).mono ?_; rintro e w1 ⟨rfl, hb1⟩; have n0_ := Aside0.mk (bT HB.out hb1); clear HB; have HB := n0_; clear n0_; clear hb1)
    go_returns
    exact ⟨rfl, below_alloc HB.out _⟩
end Go.Proofs.Ytnoejflancomaaa.P
end

section
namespace Go.Proofs.Ytnoejflancomaaa.P
set_option linter.unusedVariables false
set_option linter.unusedSimpArgs false
open Go.RowKit Go.Proofs.YtnoejflancomaaaW.PrintWords Go.Proofs.YtnoejflancomaaaW.PrintLast Go.Proofs.YtnoejflancomaaaW.PrintMore
theorem choice_all_0 (s f : Int) (B : Nat) (a b x : Int) (tok : Int) (w : World) (hs : 1 ≤ s ∧ s ≤ 6) (hf : 1 ≤ f ∧ f ≤ 4) (ha : 0 ≤ a ∧ a ≤ s) (hb : 0 ≤ b ∧ b ≤ s) (hx : 1 ≤ x ∧ x ≤ f)
    (hm : memo Try.prog 87 (twF 0 s f) (twL s f) B w) (ht : tk 0 s f a b x = some tok) :
    Calls Try.prog 79 #[.agg #[chO, .map (some B)], tw s f a b, .int .i64 x] w fun e w' => e = .returned (.int .i64 tok) ∧ memo Try.prog 87 (twF 0 s f) (twL s f) B w' ∧ Bx w.heap.size B w w' :=
  choice_0 s f B a b x tok w hs hf ha hb hx hm ht (fun a' b' w' ha' hb' _ hm' => mean_0 B hs hf (2 * s - a' - b').toNat a' b' w' ha' hb' (by omega) hm')
theorem mean_all_0 (s f : Int) (B : Nat) (a b : Int) (w : World) (hs : 1 ≤ s ∧ s ≤ 6) (hf : 1 ≤ f ∧ f ≤ 4) (ha : 0 ≤ a ∧ a ≤ s) (hb : 0 ≤ b ∧ b ≤ s)
    (hm : memo Try.prog 87 (twF 0 s f) (twL s f) B w) :
    Calls Try.prog 94 #[.agg #[chO, .map (some B)], tw s f a b] w fun e w' => e = .returned (frV (mT 0 s f a b)) ∧ memo Try.prog 87 (twF 0 s f) (twL s f) B w' ∧ Bx w.heap.size B w w' :=
  mean_0 B hs hf (2 * s - a - b).toNat a b w ha hb (by omega) hm
end Go.Proofs.Ytnoejflancomaaa.P
end

section
namespace Go.Proofs.Ytnoejflancomaaa.P
open Go.RowKit Go.Proofs.YtnoejflancomaaaW.PrintWords Go.Proofs.YtnoejflancomaaaW.PrintLast Go.Proofs.YtnoejflancomaaaW.PrintMore
attribute [local go_sem] max2_int min2_int max_two min_two max_three min_three max_four min_four
set_option linter.unusedVariables false
set_option linter.unusedSimpArgs false
def impl_PairChoice.f (s f a b x : Int) : Option (Int × Bool) := if prG s f a b && inn x 1 f then (tk 0 s f a b x).map fun t => (if 0 ≤ t then t else 0, decide (0 ≤ t)) else some (0, false)
set_option maxHeartbeats 1600000 in
set_option maxRecDepth 100000 in
theorem impl_PairChoice.calls (s f a b x r1 : Int) (r2 : Bool) (w : World) (h : impl_PairChoice.f s f a b x = some (r1, r2)) :
    Calls Try.prog 25 #[.int .i64 s, .int .i64 f, .int .i64 a, .int .i64 b, .int .i64 x] w fun e w' => e = .returned (.tuple #[.int .i64 r1, .bool r2]) ∧ Below w.heap.size w w' := by
  have HB := Aside0.mk (Below.refl w.heap.size w)
  have H := Aside0.mk h
  clear h
  cases hg : prG s f a b with
  | true =>
    have hg' : (inn s 1 6 && inn f 1 4 && inn a 0 s && inn b 0 s) = true := hg
    obtain ⟨hs, hf, ha, hb⟩ := prG_iff.1 hg
    cases hx : inn x 1 f with
    | true =>
      have h := H.out
      simp only [impl_PairChoice.f, hg, hx, Bool.and_self, if_true] at h
      obtain ⟨tok, ht, h⟩ := Option.map_eq_some_iff.1 h
      have hxx := inn_iff.1 hx
      have HT := Aside0.mk ht
      have HE := Aside0.mk h
      clear h ht hg H
      go_enter Try.func25, Try.ntmps25
      go_wp2_with (first
        | (go_at_call 75; refine (twins_of s f a b _).mono ?_; rintro e w1 ⟨rfl, hb1⟩; have n0_ := Aside0.mk (bT HB.out hb1); clear HB; have HB := n0_; clear n0_; clear hb1)
        | (go_at_call 76; (with_reducible refine (twins_isFace s f a b x _).mono ?_); rintro e w2 ⟨rfl, hb2⟩; have HG := Aside0.mk (blk_below (blk_new w1 (.cells #[.int .i64 s, .int .i64 f, .int .i64 a, .int .i64 b] 87)) hb2); have HB2 := Aside0.mk (bT (below_alloc HB.out (.cells #[.int .i64 s, .int .i64 f, .int .i64 a, .int .i64 b] 87)) hb2).drew; clear hb2))
      have hne : w1.heap.size ≠ w2.heap.size + 1 := by have := blk_lt HG.out; omega
      have E0 := Aside0.mk (show w2.drew.heap.size + 1 = w2.heap.size + 1 from rfl)
      go_region_held3 (fun W => Tq s f a b w1.heap.size W) (first | exact tq (blk_drew HG.out) | exact tq (blk_below (blk_drew HG.out) hb3) | exact tq (blk_bx (blk_below (blk_drew HG.out) hb3) hb4 hne)) (first
        | (go_at_call 77; (with_reducible refine (twins_new 78 #[] #[] _).mono ?_); rintro e w3 ⟨rfl, hm3, hb3⟩; (try rw [E0.out] at hm3); (try rw [E0.out]))
        | (go_at_call 79; (with_reducible refine (choice_all_0 s f (w2.heap.size + 1) a b x tok _ hs hf ha hb hxx (memo_empty hm3) HT.out).mono ?_); rintro e w4 ⟨rfl, hm4, hb4⟩))
      have g2 := bT HB2.out hb3
      have g3 := Aside0.mk (show Below w.heap.size w w4 from g2.trans ((hb4.mono g2.size).below (by have := (bT HB2.out hb3).size; have := HB.out.size; have := blk_lt HG.out; omega)))
      clear g2 hm4 hb4 hm3 hb3
      have he := Prod.mk.inj HE.out
      rcases tk_cases HT.out with rfl | ⟨rfl, _⟩ | ⟨rfl, _⟩
      · obtain ⟨e1, e2⟩ := he
        have e1 : (0 : Int) = r1 := by simpa using e1
        have e2 : false = r2 := by simpa using e2
        subst e1 e2
        clear HE HT
        go_wp2
        go_ret2
        exact ⟨rfl, g3.out⟩
      · obtain ⟨e1, e2⟩ := he
        have e1 : (0 : Int) = r1 := by simpa using e1
        have e2 : true = r2 := by simpa using e2
        subst e1 e2
        clear HE HT
        go_wp2
        go_ret2
        exact ⟨rfl, g3.out⟩
      · obtain ⟨e1, e2⟩ := he
        have e1 : (1 : Int) = r1 := by simpa using e1
        have e2 : true = r2 := by simpa using e2
        subst e1 e2
        clear HE HT
        go_wp2
        go_ret2
        exact ⟨rfl, g3.out⟩
    | false =>
      have h := H.out
      simp only [impl_PairChoice.f, hg, hx, Bool.and_false, Bool.false_eq_true, if_false, Option.some.injEq, Prod.mk.injEq] at h
      obtain ⟨rfl, rfl⟩ := h
      clear hg H
      go_enter Try.func25, Try.ntmps25
      go_wp2_with (first
        | (go_at_call 75; refine (twins_of s f a b _).mono ?_; rintro e w1 ⟨rfl, hb1⟩; have n0_ := Aside0.mk (bT HB.out hb1); clear HB; have HB := n0_; clear n0_; clear hb1)
        | (go_at_call 76; (with_reducible refine (twins_isFace s f a b x _).mono ?_); rintro e w2 ⟨rfl, hb2⟩; have HB2 := Aside0.mk (bT (below_alloc HB.out (.cells #[.int .i64 s, .int .i64 f, .int .i64 a, .int .i64 b] 87)) hb2); clear hb2))
      go_ret2
      exact ⟨rfl, HB2.out⟩
  | false =>
    have hg' : (inn s 1 6 && inn f 1 4 && inn a 0 s && inn b 0 s) = false := hg
    have h := H.out
    simp only [impl_PairChoice.f, hg, Bool.false_and, Bool.false_eq_true, if_false, Option.some.injEq, Prod.mk.injEq] at h
    obtain ⟨rfl, rfl⟩ := h
    clear hg H
    go_enter Try.func25, Try.ntmps25
    go_wp2_with (go_at_call 75; refine (twins_of s f a b _).mono ?_; rintro e w1 ⟨rfl, hb1⟩; have n0_ := Aside0.mk (bT HB.out hb1); clear HB; have HB := n0_; clear n0_; clear hb1)
    go_ret2
    exact ⟨rfl, below_alloc HB.out _⟩
end Go.Proofs.Ytnoejflancomaaa.P
end

section
namespace Go.Proofs.Ytnoejflancomaaa.P
open Go.RowKit Go.Proofs.YtnoejflancomaaaW.PrintWords Go.Proofs.YtnoejflancomaaaW.PrintLast Go.Proofs.YtnoejflancomaaaW.PrintMore
attribute [local go_sem] max2_int min2_int max_two min_two max_three min_three max_four min_four
set_option linter.unusedVariables false
set_option linter.unusedSimpArgs false
def laws_FnExactPairChoice.f (k : Nat) (a0 : Int) (a1 : Int) (a2 : Int) (a3 : Int) (a4 : Int) : Option (Bool) := (spec_PairChoice.f k a0 a1 a2 a3 a4).bind fun bt317 => ((impl_PairChoice.f a0 a1 a2 a3 a4).bind fun bt319 => (if bt319.1 = bt317.1 then (if (bt319.2 != bt317.2) = true then (some false) else (some true)) else (some false)))
theorem laws_FnExactPairChoice.mono : ∀ a0 a1 a2 a3 a4 k, LeO (laws_FnExactPairChoice.f k a0 a1 a2 a3 a4) (laws_FnExactPairChoice.f (k + 1) a0 a1 a2 a3 a4) := by
  intro a0 a1 a2 a3 a4 k
  unfold laws_FnExactPairChoice.f
  repeat' first
      | (with_reducible exact spec_PairChoice.mono _ _ _ _ _ _)
      | (with_reducible exact LeO.refl _)
      | (with_reducible exact LeO.none _)
      | (with_reducible refine LeO.ite ?_ ?_)
      | (with_reducible refine LeO.bind ?_ (fun _ => ?_))
      | exact spec_PairChoice.mono _ _ _ _ _ _
      | exact LeO.none _
      | refine LeO.ite ?_ ?_
      | refine LeO.bind ?_ (fun _ => ?_)
set_option maxHeartbeats 8000000 in
set_option maxRecDepth 100000 in
theorem laws_FnExactPairChoice.calls (k : Nat) (a0 : Int) (a1 : Int) (a2 : Int) (a3 : Int) (a4 : Int) (r : Bool) (w : World) (h : laws_FnExactPairChoice.f k a0 a1 a2 a3 a4 = some r) :
    Calls Try.prog 5 #[.int .i64 a0, .int .i64 a1, .int .i64 a2, .int .i64 a3, .int .i64 a4] w fun e w' => e = .returned (.bool r) ∧ Below w.heap.size w w' := by
  have HB := Aside0.mk (Below.refl w.heap.size w)
  have H : ((spec_PairChoice.f k a0 a1 a2 a3 a4).bind fun bt317 => ((impl_PairChoice.f a0 a1 a2 a3 a4).bind fun bt319 => (if bt319.1 = bt317.1 then (if (bt319.2 != bt317.2) = true then (some false) else (some true)) else (some false)))) = some r := h
  clear h
  replace H := Option.bind_eq_some_iff.mp H
  obtain ⟨⟨t317, t318⟩, A60, H⟩ := H
  replace H : ((impl_PairChoice.f a0 a1 a2 a3 a4).bind fun bt319 => (if bt319.1 = t317 then (if (bt319.2 != t318) = true then (some false) else (some true)) else (some false))) = some r := H
  have A6 := Aside0.mk A60
  clear A60
  replace H := Option.bind_eq_some_iff.mp H
  obtain ⟨⟨t319, t320⟩, A70, H⟩ := H
  replace H : (if t319 = t317 then (if (t320 != t318) = true then (some false) else (some true)) else (some false)) = some r := H
  have A7 := Aside0.mk A70
  clear A70
  by_cases c8 : t319 = t317
  · rw [if_pos c8] at H
    have c8b0 : (t319 == t317) = true := beq_iff_eq.mpr c8
    have c8b1 : (t319 != t317) = false := bne_eq_false_iff_eq.mpr c8
    clear c8
    by_cases c9 : (t320 != t318) = true
    · rw [if_pos c9] at H
      have c9b0 : (t320 != t318) = true := c9
      (try (have c9b1 : decide (t320 = t318) = false := by simpa using c9))
      (try (have c9b2 : (t320 == t318) = false := by simpa using c9))
      (try (have c9b3 : ¬ (t320 = t318) := by simpa using c9))
      clear c9
      obtain rfl := Option.some.inj H
      go_enter Try.func5, Try.ntmps5
      go_wp2_with (first | ((with_reducible refine gate_callee (f := 24) rfl ?_); refine goesL_ (some 21) rfl rfl Try.func24 (by kernel_rfl) rfl #[.int .i64 a0, .int .i64 a1, .int .i64 a2, .int .i64 a3, .int .i64 a4] rfl (by (try simp only [List.map_toArray, List.map_cons, List.map_nil]); first | done | rfl | (simp only [List.length_drop, List.length_take]; rfl)) ?_; (with_reducible refine (spec_PairChoice.calls k a0 a1 a2 a3 a4 t317 t318 _ A6.out).mono ?_); rintro e w10 ⟨rfl, hb⟩; refine ⟨_, rfl, ?_⟩; have n0_ := Aside0.mk (below_step (by repeat (first | (with_reducible first | exact HB.out | apply below_alloc | apply pw_below_drewN | apply below_drew1) | exact HB.out)) hb); clear HB; have HB := n0_; clear n0_; (try clear hb); (try clear hb2); (try clear hk); (try clear hi)) | ((with_reducible refine gate_callee (f := 25) rfl ?_); refine goesL_ (some 30) rfl rfl Try.func25 (by kernel_rfl) rfl #[.int .i64 a0, .int .i64 a1, .int .i64 a2, .int .i64 a3, .int .i64 a4] rfl (by (try simp only [List.map_toArray, List.map_cons, List.map_nil]); first | done | rfl | (simp only [List.length_drop, List.length_take]; rfl)) ?_; (with_reducible refine (impl_PairChoice.calls a0 a1 a2 a3 a4 t319 t320 _ A7.out).mono ?_); rintro e w11 ⟨rfl, hb⟩; refine ⟨_, rfl, ?_⟩; have n0_ := Aside0.mk (below_step (by repeat (first | (with_reducible first | exact HB.out | apply below_alloc | apply pw_below_drewN | apply below_drew1) | exact HB.out)) hb); clear HB; have HB := n0_; clear n0_; (try clear hb); (try clear hb2); (try clear hk); (try clear hi)))
      go_ret
      exact ⟨by first | rfl | (simp [errW_none, errW_some] <;> rfl) | (simp [*, errW_none, errW_some] <;> rfl), by repeat (first | (with_reducible first | exact HB.out | apply below_alloc | apply pw_below_drewN | apply below_drew1) | exact HB.out)⟩
    · rw [if_neg c9] at H
      have c9b0 : (t320 != t318) = false := by simpa using c9
      (try (have c9b1 : decide (t320 = t318) = true := by simpa using c9))
      (try (have c9b2 : (t320 == t318) = true := by simpa using c9))
      clear c9
      obtain rfl := Option.some.inj H
      go_enter Try.func5, Try.ntmps5
      go_wp2_with (first | ((with_reducible refine gate_callee (f := 24) rfl ?_); refine goesL_ (some 21) rfl rfl Try.func24 (by kernel_rfl) rfl #[.int .i64 a0, .int .i64 a1, .int .i64 a2, .int .i64 a3, .int .i64 a4] rfl (by (try simp only [List.map_toArray, List.map_cons, List.map_nil]); first | done | rfl | (simp only [List.length_drop, List.length_take]; rfl)) ?_; (with_reducible refine (spec_PairChoice.calls k a0 a1 a2 a3 a4 t317 t318 _ A6.out).mono ?_); rintro e w12 ⟨rfl, hb⟩; refine ⟨_, rfl, ?_⟩; have n0_ := Aside0.mk (below_step (by repeat (first | (with_reducible first | exact HB.out | apply below_alloc | apply pw_below_drewN | apply below_drew1) | exact HB.out)) hb); clear HB; have HB := n0_; clear n0_; (try clear hb); (try clear hb2); (try clear hk); (try clear hi)) | ((with_reducible refine gate_callee (f := 25) rfl ?_); refine goesL_ (some 30) rfl rfl Try.func25 (by kernel_rfl) rfl #[.int .i64 a0, .int .i64 a1, .int .i64 a2, .int .i64 a3, .int .i64 a4] rfl (by (try simp only [List.map_toArray, List.map_cons, List.map_nil]); first | done | rfl | (simp only [List.length_drop, List.length_take]; rfl)) ?_; (with_reducible refine (impl_PairChoice.calls a0 a1 a2 a3 a4 t319 t320 _ A7.out).mono ?_); rintro e w13 ⟨rfl, hb⟩; refine ⟨_, rfl, ?_⟩; have n0_ := Aside0.mk (below_step (by repeat (first | (with_reducible first | exact HB.out | apply below_alloc | apply pw_below_drewN | apply below_drew1) | exact HB.out)) hb); clear HB; have HB := n0_; clear n0_; (try clear hb); (try clear hb2); (try clear hk); (try clear hi)))
      go_ret
      exact ⟨by first | rfl | (simp [errW_none, errW_some] <;> rfl) | (simp [*, errW_none, errW_some] <;> rfl), by repeat (first | (with_reducible first | exact HB.out | apply below_alloc | apply pw_below_drewN | apply below_drew1) | exact HB.out)⟩
  · rw [if_neg c8] at H
    have c8b0 : (t319 == t317) = false := beq_eq_false_iff_ne.mpr c8
    have c8b1 : (t319 != t317) = true := bne_iff_ne.mpr c8
    obtain rfl := Option.some.inj H
    go_enter Try.func5, Try.ntmps5
    go_wp2_with (first | ((with_reducible refine gate_callee (f := 24) rfl ?_); refine goesL_ (some 21) rfl rfl Try.func24 (by kernel_rfl) rfl #[.int .i64 a0, .int .i64 a1, .int .i64 a2, .int .i64 a3, .int .i64 a4] rfl (by (try simp only [List.map_toArray, List.map_cons, List.map_nil]); first | done | rfl | (simp only [List.length_drop, List.length_take]; rfl)) ?_; (with_reducible refine (spec_PairChoice.calls k a0 a1 a2 a3 a4 t317 t318 _ A6.out).mono ?_); rintro e w14 ⟨rfl, hb⟩; refine ⟨_, rfl, ?_⟩; have n0_ := Aside0.mk (below_step (by repeat (first | (with_reducible first | exact HB.out | apply below_alloc | apply pw_below_drewN | apply below_drew1) | exact HB.out)) hb); clear HB; have HB := n0_; clear n0_; (try clear hb); (try clear hb2); (try clear hk); (try clear hi)) | ((with_reducible refine gate_callee (f := 25) rfl ?_); refine goesL_ (some 30) rfl rfl Try.func25 (by kernel_rfl) rfl #[.int .i64 a0, .int .i64 a1, .int .i64 a2, .int .i64 a3, .int .i64 a4] rfl (by (try simp only [List.map_toArray, List.map_cons, List.map_nil]); first | done | rfl | (simp only [List.length_drop, List.length_take]; rfl)) ?_; (with_reducible refine (impl_PairChoice.calls a0 a1 a2 a3 a4 t319 t320 _ A7.out).mono ?_); rintro e w15 ⟨rfl, hb⟩; refine ⟨_, rfl, ?_⟩; have n0_ := Aside0.mk (below_step (by repeat (first | (with_reducible first | exact HB.out | apply below_alloc | apply pw_below_drewN | apply below_drew1) | exact HB.out)) hb); clear HB; have HB := n0_; clear n0_; (try clear hb); (try clear hb2); (try clear hk); (try clear hi)))
    go_ret
    exact ⟨by first | rfl | (simp [errW_none, errW_some] <;> rfl) | (simp [*, errW_none, errW_some] <;> rfl), by repeat (first | (with_reducible first | exact HB.out | apply below_alloc | apply pw_below_drewN | apply below_drew1) | exact HB.out)⟩
def laws_FnExactPairChoice.Pure : Prop := ∀ (a0 : Int) (a1 : Int) (a2 : Int) (a3 : Int) (a4 : Int), (Lit.int .i64 a0).wf = true → (Lit.int .i64 a1).wf = true → (Lit.int .i64 a2).wf = true → (Lit.int .i64 a3).wf = true → (Lit.int .i64 a4).wf = true → ∃ k, laws_FnExactPairChoice.f k a0 a1 a2 a3 a4 = some true
theorem laws_FnExactPairChoice.walk (P : laws_FnExactPairChoice.Pure) (a0 : Int) (a1 : Int) (a2 : Int) (a3 : Int) (a4 : Int) (w : World) (w0 : (Lit.int .i64 a0).wf = true) (w1 : (Lit.int .i64 a1).wf = true) (w2 : (Lit.int .i64 a2).wf = true) (w3 : (Lit.int .i64 a3).wf = true) (w4 : (Lit.int .i64 a4).wf = true) :
    Calls Try.prog 5 #[.int .i64 a0, .int .i64 a1, .int .i64 a2, .int .i64 a3, .int .i64 a4] w fun e w' => e = .returned (.bool true) ∧ Below w.heap.size w w' := by
  obtain ⟨k, h⟩ := P a0 a1 a2 a3 a4 w0 w1 w2 w3 w4
  refine (laws_FnExactPairChoice.calls k a0 a1 a2 a3 a4 true w h).mono ?_
  rintro e w' ⟨rfl, hd⟩
  exact ⟨rfl, hd⟩
end Go.Proofs.Ytnoejflancomaaa.P
end

section
namespace Go.Proofs.Ytnoejflancomaaa.P
open Go.RowKit Go.Proofs.YtnoejflancomaaaW.PrintWords Go.Proofs.YtnoejflancomaaaW.PrintLast Go.Proofs.YtnoejflancomaaaW.PrintMore
attribute [local go_sem] max2_int min2_int max_two min_two max_three min_three max_four min_four
set_option linter.unusedVariables false
set_option linter.unusedSimpArgs false
def spec_oiMean.f (k : Nat) (a0 : Int) (a1 : Int) (a2 : Int) (a3 : Int) (a4 : Int) : Option (Int × Int) := (spec_oiTable.f k a0 a1 a4).bind fun bt321 => (if 0 ≤ (wrap64 ((wrap64 (a2 * (wrap64 (a0 + 1)))) + a3)) then (if (wrap64 ((wrap64 (a2 * (wrap64 (a0 + 1)))) + a3)) < (bt321.1.length : Int) then (some ((rd_T109 bt321.1 (wrap64 ((wrap64 (a2 * (wrap64 (a0 + 1)))) + a3))).f0, (rd_T109 bt321.1 (wrap64 ((wrap64 (a2 * (wrap64 (a0 + 1)))) + a3))).f1)) else (none)) else (none))
theorem spec_oiMean.mono : ∀ a0 a1 a2 a3 a4 k, LeO (spec_oiMean.f k a0 a1 a2 a3 a4) (spec_oiMean.f (k + 1) a0 a1 a2 a3 a4) := by
  intro a0 a1 a2 a3 a4 k
  unfold spec_oiMean.f
  repeat' first
      | (with_reducible exact spec_oiTable.mono _ _ _ _)
      | (with_reducible exact LeO.refl _)
      | (with_reducible exact LeO.none _)
      | (with_reducible refine LeO.ite ?_ ?_)
      | (with_reducible refine LeO.bind ?_ (fun _ => ?_))
      | exact spec_oiTable.mono _ _ _ _
      | exact LeO.none _
      | refine LeO.ite ?_ ?_
      | refine LeO.bind ?_ (fun _ => ?_)
set_option maxHeartbeats 8000000 in
set_option maxRecDepth 100000 in
theorem spec_oiMean.calls (k : Nat) (a0 : Int) (a1 : Int) (a2 : Int) (a3 : Int) (a4 : Int) (r1 : Int) (r2 : Int) (w : World) (h : spec_oiMean.f k a0 a1 a2 a3 a4 = some (r1, r2)) :
    Calls Try.prog 80 #[.int .i64 a0, .int .i64 a1, .int .i64 a2, .int .i64 a3, .int .i64 a4] w fun e w' => e = .returned (.tuple #[.int .i64 r1, .int .i64 r2]) ∧ Below w.heap.size w w' := by
  have hu109 := Try.underlying109
  have HB := Aside0.mk (Below.refl w.heap.size w)
  have H : ((spec_oiTable.f k a0 a1 a4).bind fun bt321 => (if 0 ≤ (wrap64 ((wrap64 (a2 * (wrap64 (a0 + 1)))) + a3)) then (if (wrap64 ((wrap64 (a2 * (wrap64 (a0 + 1)))) + a3)) < (bt321.1.length : Int) then (some ((rd_T109 bt321.1 (wrap64 ((wrap64 (a2 * (wrap64 (a0 + 1)))) + a3))).f0, (rd_T109 bt321.1 (wrap64 ((wrap64 (a2 * (wrap64 (a0 + 1)))) + a3))).f1)) else (none)) else (none))) = some (r1, r2) := h
  clear h
  replace H := Option.bind_eq_some_iff.mp H
  obtain ⟨⟨t321, t322⟩, A60, H⟩ := H
  replace H : (if 0 ≤ (wrap64 ((wrap64 (a2 * (wrap64 (a0 + 1)))) + a3)) then (if (wrap64 ((wrap64 (a2 * (wrap64 (a0 + 1)))) + a3)) < (t321.length : Int) then (some ((rd_T109 t321 (wrap64 ((wrap64 (a2 * (wrap64 (a0 + 1)))) + a3))).f0, (rd_T109 t321 (wrap64 ((wrap64 (a2 * (wrap64 (a0 + 1)))) + a3))).f1)) else (none)) else (none)) = some (r1, r2) := H
  have A6 := Aside0.mk A60
  clear A60
  obtain ⟨ji7, hji7⟩ : ∃ j_ : Int, (wrap64 ((wrap64 (a2 * (wrap64 (a0 + 1)))) + a3)) = j_ := ⟨_, rfl⟩
  replace H : (if 0 ≤ (ji7) then (if (ji7) < (t321.length : Int) then (some ((rd_T109 t321 (ji7)).f0, (rd_T109 t321 (ji7)).f1)) else (none)) else (none)) = some (r1, r2) := by first | (rw [hji7] at H; exact H) | (simp only [hji7] at H ⊢; exact H)
  (try rw [hji7] at A6)
  have hji7w : (IntKind.i64.wrap ((wrap64 (a2 * (wrap64 (a0 + 1)))) + a3)) = ji7 := (i64_w _).trans hji7
  by_cases c8 : 0 ≤ (ji7)
  · rw [if_pos c8] at H
    have c8b0 : decide (0 ≤ (ji7)) = true := decide_eq_true c8
    clear c8
    by_cases c9 : (ji7) < (t321.length : Int)
    · rw [if_pos c9] at H
      have c9b0 : decide ((ji7) < (t321.length : Int)) = true := decide_eq_true c9
      clear c9
      simp only [Option.some.injEq, Prod.mk.injEq] at H
      obtain ⟨rfl, rfl⟩ := H
      go_enter Try.func80, Try.ntmps80
      go_wp2_with (first | (go_at_call 74; (with_reducible refine (spec_oiTable.calls k a0 a1 a4 t321 t322 _ A6.out).mono ?_); rintro e w10 ⟨v323, v325, rfl, ho0, ho1, hb⟩; have n0_ := Aside0.mk (Kd.R_lower ho0 (below_size (by repeat (first | (with_reducible first | exact HB.out | apply below_alloc | apply pw_below_drewN | apply below_drew1) | exact HB.out)))); have n1_ := Aside0.mk (Kd.S_lower ho1 (below_size (by repeat (first | (with_reducible first | exact HB.out | apply below_alloc | apply pw_below_drewN | apply below_drew1) | exact HB.out)))); have n2_ := Aside0.mk (below_step (by repeat (first | (with_reducible first | exact HB.out | apply below_alloc | apply pw_below_drewN | apply below_drew1) | exact HB.out)) hb); clear HB; have HO324 := n0_; have HO326 := n1_; have HB := n2_; clear n0_ n1_ n2_; (try clear hb); (try clear hb2); (try clear hk); (try clear hi); (try clear ho0); (try clear ho1); obtain ⟨Ao11, co11, eo11⟩ := Kd.R_slice HO324.out; subst eo11; have p327 : 0 ≤ ((ji7) : Int) := of_decide_eq_true (by first | (with_reducible assumption) | assumption); have q327 : (ji7) < (t321.length : Int) := of_decide_eq_true (by first | (with_reducible assumption) | assumption); obtain ⟨ad327, e327, hx327_0, hx327_1⟩ := at_T109 (Kd.R_reads' HO324.out).2.2 (ji7) p327 q327; cases e327; replace p327 := eq_true p327; replace q327 := eq_true q327) | ((with_reducible refine gate_dst (N := 14) rfl ?_); refine box_event ?hg (N := 14) ?hd (cs := #[.int .i64 0, .int .i64 0]) (t := 109) ?hr ?_; (case hd => rfl); (case hg => rfl); (case hr => first | (go_simp; done) | (go_simp; rfl)); intro gb328 hg w12 hbox hb; have n0_ := Aside0.mk (Kd.R_below (Kd.R_elderB (by (with_reducible repeat (first | apply Kd.R_alloc | apply Kd.R_drewN | apply Kd.R_drew)); exact HO324.out) gb328 (Nat.le_of_eq hg.symm)) hb); have n1_ := Aside0.mk (Kd.S_below (by (with_reducible repeat (first | apply Kd.S_alloc | apply Kd.S_drewN | apply Kd.S_drew)); exact HO326.out) hb); have n2_ := Aside0.mk (below_step (by repeat (first | (with_reducible first | exact HB.out | apply below_alloc | apply pw_below_drewN | apply below_drew1) | exact HB.out)) hb); have n3_ := Aside0.mk (hbox); have n4_ := Aside0.mk ((by rw [hg]; exact (below_size (by repeat (first | (with_reducible first | exact HB.out | apply below_alloc | apply pw_below_drewN | apply below_drew1) | exact HB.out))) : w.heap.size ≤ gb328)); have n5_ := Aside0.mk ((by rw [hg]; exact (below_size (by repeat (first | (with_reducible first | exact HB.out | apply below_alloc | apply pw_below_drewN | apply below_drew1) | exact HB.out))) : w.heap.size ≤ gb328)); clear HO324; clear HO326; clear HB; have HO324 := n0_; have HO326 := n1_; have HB := n2_; have BK328 := n3_; have GW328 := n4_; have GE328 := n5_; clear n0_ n1_ n2_ n3_ n4_ n5_; clear hb hbox hg; have hcz13_0 : w12.cell? ⟨gb328, 0, none⟩ = some (.int .i64 0) := (blk_cell BK328.out 0).trans rfl; have hcz13_1 : w12.cell? ⟨gb328, 1, none⟩ = some (.int .i64 0) := (blk_cell BK328.out 1).trans rfl; have hfz13_0 := blk_frozen BK328.out 0; have hfz13_1 := blk_frozen BK328.out 1))
      repeat (go_quiet (first | (go_at_call 74; (with_reducible refine (spec_oiTable.calls k a0 a1 a4 t321 t322 _ A6.out).mono ?_); rintro e w10 ⟨v323, v325, rfl, ho0, ho1, hb⟩; have n0_ := Aside0.mk (Kd.R_lower ho0 (below_size (by repeat (first | (with_reducible first | exact HB.out | apply below_alloc | apply pw_below_drewN | apply below_drew1) | exact HB.out)))); have n1_ := Aside0.mk (Kd.S_lower ho1 (below_size (by repeat (first | (with_reducible first | exact HB.out | apply below_alloc | apply pw_below_drewN | apply below_drew1) | exact HB.out)))); have n2_ := Aside0.mk (below_step (by repeat (first | (with_reducible first | exact HB.out | apply below_alloc | apply pw_below_drewN | apply below_drew1) | exact HB.out)) hb); clear HB; have HO324 := n0_; have HO326 := n1_; have HB := n2_; clear n0_ n1_ n2_; (try clear hb); (try clear hb2); (try clear hk); (try clear hi); (try clear ho0); (try clear ho1); obtain ⟨Ao11, co11, eo11⟩ := Kd.R_slice HO324.out; subst eo11; have p327 : 0 ≤ ((ji7) : Int) := of_decide_eq_true (by first | (with_reducible assumption) | assumption); have q327 : (ji7) < (t321.length : Int) := of_decide_eq_true (by first | (with_reducible assumption) | assumption); obtain ⟨ad327, e327, hx327_0, hx327_1⟩ := at_T109 (Kd.R_reads' HO324.out).2.2 (ji7) p327 q327; cases e327; replace p327 := eq_true p327; replace q327 := eq_true q327) | ((with_reducible refine gate_dst (N := 14) rfl ?_); refine box_event ?hg (N := 14) ?hd (cs := #[.int .i64 0, .int .i64 0]) (t := 109) ?hr ?_; (case hd => rfl); (case hg => rfl); (case hr => first | (go_simp; done) | (go_simp; rfl)); intro gb328 hg w12 hbox hb; have n0_ := Aside0.mk (Kd.R_below (Kd.R_elderB (by (with_reducible repeat (first | apply Kd.R_alloc | apply Kd.R_drewN | apply Kd.R_drew)); exact HO324.out) gb328 (Nat.le_of_eq hg.symm)) hb); have n1_ := Aside0.mk (Kd.S_below (by (with_reducible repeat (first | apply Kd.S_alloc | apply Kd.S_drewN | apply Kd.S_drew)); exact HO326.out) hb); have n2_ := Aside0.mk (below_step (by repeat (first | (with_reducible first | exact HB.out | apply below_alloc | apply pw_below_drewN | apply below_drew1) | exact HB.out)) hb); have n3_ := Aside0.mk (hbox); have n4_ := Aside0.mk ((by rw [hg]; exact (below_size (by repeat (first | (with_reducible first | exact HB.out | apply below_alloc | apply pw_below_drewN | apply below_drew1) | exact HB.out))) : w.heap.size ≤ gb328)); have n5_ := Aside0.mk ((by rw [hg]; exact (below_size (by repeat (first | (with_reducible first | exact HB.out | apply below_alloc | apply pw_below_drewN | apply below_drew1) | exact HB.out))) : w.heap.size ≤ gb328)); clear HO324; clear HO326; clear HB; have HO324 := n0_; have HO326 := n1_; have HB := n2_; have BK328 := n3_; have GW328 := n4_; have GE328 := n5_; clear n0_ n1_ n2_ n3_ n4_ n5_; clear hb hbox hg; have hcz13_0 : w12.cell? ⟨gb328, 0, none⟩ = some (.int .i64 0) := (blk_cell BK328.out 0).trans rfl; have hcz13_1 : w12.cell? ⟨gb328, 1, none⟩ = some (.int .i64 0) := (blk_cell BK328.out 1).trans rfl; have hfz13_0 := blk_frozen BK328.out 0; have hfz13_1 := blk_frozen BK328.out 1)); try go_wp2_with (first | (go_at_call 74; (with_reducible refine (spec_oiTable.calls k a0 a1 a4 t321 t322 _ A6.out).mono ?_); rintro e w10 ⟨v323, v325, rfl, ho0, ho1, hb⟩; have n0_ := Aside0.mk (Kd.R_lower ho0 (below_size (by repeat (first | (with_reducible first | exact HB.out | apply below_alloc | apply pw_below_drewN | apply below_drew1) | exact HB.out)))); have n1_ := Aside0.mk (Kd.S_lower ho1 (below_size (by repeat (first | (with_reducible first | exact HB.out | apply below_alloc | apply pw_below_drewN | apply below_drew1) | exact HB.out)))); have n2_ := Aside0.mk (below_step (by repeat (first | (with_reducible first | exact HB.out | apply below_alloc | apply pw_below_drewN | apply below_drew1) | exact HB.out)) hb); clear HB; have HO324 := n0_; have HO326 := n1_; have HB := n2_; clear n0_ n1_ n2_; (try clear hb); (try clear hb2); (try clear hk); (try clear hi); (try clear ho0); (try clear ho1); obtain ⟨Ao11, co11, eo11⟩ := Kd.R_slice HO324.out; subst eo11; have p327 : 0 ≤ ((ji7) : Int) := of_decide_eq_true (by first | (with_reducible assumption) | assumption); have q327 : (ji7) < (t321.length : Int) := of_decide_eq_true (by first | (with_reducible assumption) | assumption); obtain ⟨ad327, e327, hx327_0, hx327_1⟩ := at_T109 (Kd.R_reads' HO324.out).2.2 (ji7) p327 q327; cases e327; replace p327 := eq_true p327; replace q327 := eq_true q327) | ((with_reducible refine gate_dst (N := 14) rfl ?_); refine box_event ?hg (N := 14) ?hd (cs := #[.int .i64 0, .int .i64 0]) (t := 109) ?hr ?_; (case hd => rfl); (case hg => rfl); (case hr => first | (go_simp; done) | (go_simp; rfl)); intro gb328 hg w12 hbox hb; have n0_ := Aside0.mk (Kd.R_below (Kd.R_elderB (by (with_reducible repeat (first | apply Kd.R_alloc | apply Kd.R_drewN | apply Kd.R_drew)); exact HO324.out) gb328 (Nat.le_of_eq hg.symm)) hb); have n1_ := Aside0.mk (Kd.S_below (by (with_reducible repeat (first | apply Kd.S_alloc | apply Kd.S_drewN | apply Kd.S_drew)); exact HO326.out) hb); have n2_ := Aside0.mk (below_step (by repeat (first | (with_reducible first | exact HB.out | apply below_alloc | apply pw_below_drewN | apply below_drew1) | exact HB.out)) hb); have n3_ := Aside0.mk (hbox); have n4_ := Aside0.mk ((by rw [hg]; exact (below_size (by repeat (first | (with_reducible first | exact HB.out | apply below_alloc | apply pw_below_drewN | apply below_drew1) | exact HB.out))) : w.heap.size ≤ gb328)); have n5_ := Aside0.mk ((by rw [hg]; exact (below_size (by repeat (first | (with_reducible first | exact HB.out | apply below_alloc | apply pw_below_drewN | apply below_drew1) | exact HB.out))) : w.heap.size ≤ gb328)); clear HO324; clear HO326; clear HB; have HO324 := n0_; have HO326 := n1_; have HB := n2_; have BK328 := n3_; have GW328 := n4_; have GE328 := n5_; clear n0_ n1_ n2_ n3_ n4_ n5_; clear hb hbox hg; have hcz13_0 : w12.cell? ⟨gb328, 0, none⟩ = some (.int .i64 0) := (blk_cell BK328.out 0).trans rfl; have hcz13_1 : w12.cell? ⟨gb328, 1, none⟩ = some (.int .i64 0) := (blk_cell BK328.out 1).trans rfl; have hfz13_0 := blk_frozen BK328.out 0; have hfz13_1 := blk_frozen BK328.out 1)))
      go_ret2
      exact ⟨by first | rfl | (simp [errW_none, errW_some] <;> rfl) | (simp only [← hji7]; first | rfl | (simp [errW_none, errW_some] <;> rfl)) | (simp [*, errW_none, errW_some] <;> rfl), by repeat (first | (with_reducible first | exact HB.out | apply below_alloc | apply pw_below_drewN | apply below_drew1 | refine below_set ?_ GE328.out) | exact HB.out)⟩
    · rw [if_neg c9] at H
      exact absurd H (by simp)
  · rw [if_neg c8] at H
    exact absurd H (by simp)
end Go.Proofs.Ytnoejflancomaaa.P
end
