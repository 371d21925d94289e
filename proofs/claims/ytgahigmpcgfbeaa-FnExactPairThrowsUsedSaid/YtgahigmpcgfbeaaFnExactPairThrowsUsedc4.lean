/- The program's PairThrowsUsed returns what the reference's returns, for all pairs and lists of throws, and leaves the throws as they were. -/
import Derived.Laws.Rows
import Derived.Test.YtgahigmpcgfbeaaFnExactPairThrowsUsedc3
section
namespace Go.Proofs.Ytgahigmpcgfbeaa.P
set_option linter.unusedVariables false
set_option linter.unusedSimpArgs false
open Go.RowKit Go.Proofs.YtgahigmpcgfbeaaW.PrintWords Go.Proofs.YtgahigmpcgfbeaaW.PrintLast Go.Proofs.YtgahigmpcgfbeaaW.PrintMore
attribute [local go_sem] max2_int min2_int max_two min_two max_three min_three max_four min_four
theorem int_two {w : World} {base r : Nat} {a b : Int} (hr : w.heap[r]? = some (.cells #[.int .i64 a, .int .i64 b] 3 (0, 0))) (hb : base ≤ r) :
    Kd.R (Kd.int .i64) 3 w base (fun k => k = r) (.slice (some ⟨r, 0, none⟩) 2 2) [a, b] := by
  refine ⟨fun k hk => by simp only [Value.ownBlock, Option.some.injEq] at hk; exact hk.symm, [.int .i64 a, .int .i64 b], ⟨rfl, Or.inr ⟨r, 2, _, rfl, hb, hr, Nat.le_refl _, by decide, rfl, rfl⟩⟩, ?_⟩
  exact Reps.one (show Kd.M (Kd.int .i64) _ _ _ a [.int .i64 a] from rfl) (Reps.one (show Kd.M (Kd.int .i64) _ _ _ b [.int .i64 b] from rfl) (Reps.none _ _))
theorem row_two {w : World} {base r o : Nat} {a b : Int} (hr : w.heap[r]? = some (.cells #[.int .i64 a, .int .i64 b] 3 (0, 0))) (ho : w.heap[o]? = some (.cells #[.slice (some ⟨r, 0, none⟩) 2 2] 26 (0, 0))) (hbr : base ≤ r) (hbo : base ≤ o) :
    Kd.N (Kd.slice 3 (Kd.int .i64)) 26 w base (fun k => k = r ∨ k = o) (.slice (some ⟨o, 0, none⟩) 1 1) [[a, b]] := by
  have hne : r ≠ o := fun e => by
    rw [e] at hr
    rw [hr] at ho
    have := Option.some.inj ho
    injection this with _ h2
    exact absurd h2 (by decide)
  refine ⟨fun k hk => by simp only [Value.ownBlock, Option.some.injEq] at hk; exact Or.inr hk.symm, [[.slice (some ⟨r, 0, none⟩) 2 2]], rfl, ⟨fun k hk => hk.symm, [.slice (some ⟨r, 0, none⟩) 2 2], ⟨rfl, Or.inr ⟨o, 1, _, rfl, hbo, ho, Nat.le_refl _, by decide, rfl, rfl⟩⟩, ?_⟩, fun j x c hx hc => ?_⟩
  · exact Reps.one (show Kd.M (Kd.raw 1) _ _ _ [.slice (some ⟨r, 0, none⟩) 2 2] [.slice (some ⟨r, 0, none⟩) 2 2] from ⟨rfl, rfl, by intro u hu; simp only [List.mem_singleton] at hu; subst hu; rfl⟩) (Reps.none _ _)
  · rcases j with _ | j
    · simp only [List.getElem?_cons_zero, Option.some.injEq] at hx hc
      subst hx hc
      exact Kd.FK_slice_mk (Nat.le_refl 2) (Kd.R_F (Kd.R_mono (int_two hr hbr) (fun k hk => by subst hk; exact ⟨Or.inl rfl, by simp only [Value.ownBlock, ne_eq, Option.some.injEq]; exact hne⟩)))
    · simp at hx
structure PlF (p0 p7 p8 p9 p10 : Bool) (s f a b : Int) (gt : Nat) (w0 : World) (q : Nat × Nat × Nat × Nat) (W : World) : Prop where
  kt : W.heap[gt]? = some (.cells #[.int .i64 s, .int .i64 f, .int .i64 a, .int .i64 b] 133 (0, 0))
  bw : Below w0.heap.size w0 W
  m : p0 = true → W.heap[q.1]? = some (.map #[] 0) ∧ w0.heap.size ≤ q.1
  g : p9 = true → w0.heap.size ≤ q.2.1 ∧ W.heap[q.2.1]? = some (.cells #[if p10 then chO else .nilFunc, .map (if p10 then some q.1 else none)] 163 (0, 0))
  r : p7 = true → w0.heap.size ≤ q.2.2.1 ∧ W.heap[q.2.2.1]? = some (.cells #[.int .i64 a, .int .i64 b] 3 (0, 0))
  o : p8 = true → w0.heap.size ≤ q.2.2.2 ∧ W.heap[q.2.2.2]? = some (.cells #[.slice (some ⟨q.2.2.1, 0, none⟩) 2 2] 26 (0, 0))
section
variable {p0 p7 p8 p9 p10 : Bool} {s f a b : Int} {gt : Nat} {w0 W W' : World} {q : Nat × Nat × Nat × Nat}
theorem PlF.below (h : PlF p0 p7 p8 p9 p10 s f a b gt w0 q W) (hb : Below W.heap.size W W') : PlF p0 p7 p8 p9 p10 s f a b gt w0 q W' :=
  ⟨blk_below h.kt hb, bT h.bw hb, fun e => ⟨blk_below (h.m e).1 hb, (h.m e).2⟩, fun e => ⟨(h.g e).1, blk_below (h.g e).2 hb⟩, fun e => ⟨(h.r e).1, blk_below (h.r e).2 hb⟩, fun e => ⟨(h.o e).1, blk_below (h.o e).2 hb⟩⟩
theorem PlF.call (h : PlF false p7 p8 p9 false s f a b gt w0 q W) (hb : Below W.heap.size W W') (hm : W'.heap[W.heap.size + 1]? = some (.map #[] 0)) : PlF true p7 p8 p9 false s f a b gt w0 (W.heap.size + 1, q.2) W' :=
  have h' := h.below hb
  ⟨h'.kt, h'.bw, fun _ => ⟨hm, by have := h.bw.size; show _ ≤ W.heap.size + 1; omega⟩, h'.g, h'.r, h'.o⟩
theorem PlF.all9 (h : PlF p0 p7 p8 false false s f a b gt w0 q W) : PlF p0 p7 p8 true false s f a b gt w0 (q.1, W.heap.size, q.2.2) (W.alloc (.cells #[.nilFunc, .map none] 163)) :=
  have h' := h.below (below_alloc (Below.refl W.heap.size W) (.cells #[.nilFunc, .map none] 163))
  ⟨h'.kt, h'.bw, h'.m, fun _ => ⟨h.bw.size, blk_new _ _⟩, h'.r, h'.o⟩
theorem PlF.all7 (h : PlF p0 false false p9 p10 s f a b gt w0 q W) : PlF p0 true false p9 p10 s f a b gt w0 (q.1, q.2.1, W.heap.size, q.2.2.2) (W.alloc (.cells #[.int .i64 a, .int .i64 b] 3)) :=
  have h' := h.below (below_alloc (Below.refl W.heap.size W) (.cells #[.int .i64 a, .int .i64 b] 3))
  ⟨h'.kt, h'.bw, h'.m, h'.g, fun _ => ⟨h.bw.size, blk_new _ _⟩, fun e => absurd e (by decide)⟩
theorem PlF.all8 (h : PlF p0 true false p9 p10 s f a b gt w0 q W) : PlF p0 true true p9 p10 s f a b gt w0 (q.1, q.2.1, q.2.2.1, W.heap.size) (W.alloc (.cells #[.slice (some ⟨q.2.2.1, 0, none⟩) 2 2] 26)) :=
  have h' := h.below (below_alloc (Below.refl W.heap.size W) (.cells #[.slice (some ⟨q.2.2.1, 0, none⟩) 2 2] 26))
  ⟨h'.kt, h'.bw, h'.m, h'.g, h'.r, fun _ => ⟨h.bw.size, blk_new _ _⟩⟩
theorem PlF.put (h : PlF true p7 p8 true false s f a b gt w0 q W) : PlF true p7 p8 true true s f a b gt w0 q ((W.setCell ⟨q.2.1, 0, none⟩ chO).setCell ⟨q.2.1, 1, none⟩ (.map (some q.1))) := by
  have hg := (h.g rfl).2
  have far : ∀ {k : Nat} {o : Obj}, W.heap[k]? = some o → k ≠ q.2.1 → ((W.setCell ⟨q.2.1, 0, none⟩ chO).setCell ⟨q.2.1, 1, none⟩ (.map (some q.1))).heap[k]? = some o := fun {k o} hk hne => by
    rw [Below.heap_setCell _ ⟨q.2.1, 1, none⟩ _ k hne, Below.heap_setCell _ ⟨q.2.1, 0, none⟩ _ k hne]
    exact hk
  have ne_of : ∀ {k : Nat} {o : Obj}, W.heap[k]? = some o → (∀ c, o ≠ .cells c 163 (0, 0)) → k ≠ q.2.1 := fun {k o} hk ho e => by
    subst e
    rw [hg] at hk
    exact ho _ (Option.some.inj hk).symm
  refine ⟨far h.kt (ne_of h.kt (fun c e => by injection e with _ h2; exact absurd h2 (by decide))), ?_, fun e => ⟨far (h.m e).1 (ne_of (h.m e).1 (fun c e => by cases e)), (h.m e).2⟩, fun e => ⟨(h.g rfl).1, ?_⟩, fun e => ⟨(h.r e).1, far (h.r e).2 (ne_of (h.r e).2 (fun c e => by injection e with _ h2; exact absurd h2 (by decide)))⟩, fun e => ⟨(h.o e).1, far (h.o e).2 (ne_of (h.o e).2 (fun c e => by injection e with _ h2; exact absurd h2 (by decide)))⟩⟩
  · exact (h.bw.setCell (p := ⟨q.2.1, 0, none⟩) (h.g rfl).1 _).setCell (p := ⟨q.2.1, 1, none⟩) (h.g rfl).1 _
  · have h1 := heap_setCell_same W q.2.1 0 _ _ chO hg
    have h2 := heap_setCell_same _ q.2.1 1 _ _ (.map (some q.1)) h1
    simpa using h2
theorem PlF.drew (h : PlF p0 p7 p8 p9 p10 s f a b gt w0 q W) : PlF p0 p7 p8 p9 p10 s f a b gt w0 q W.drew := ⟨blk_drew h.kt, h.bw.drew, fun e => ⟨blk_drew (h.m e).1, (h.m e).2⟩, fun e => ⟨(h.g e).1, blk_drew (h.g e).2⟩, fun e => ⟨(h.r e).1, blk_drew (h.r e).2⟩, fun e => ⟨(h.o e).1, blk_drew (h.o e).2⟩⟩
def okP (n gt gm B k : Nat) : Prop := n ≤ k ∧ k ≠ gt ∧ k ≠ gm ∧ k ≠ B
theorem blk_ne {w : World} {g k : Nat} {o o' : Obj} (h : w.heap[g]? = some o) (h' : w.heap[k]? = some o') (hne : o ≠ o') : g ≠ k := fun e => by
  subst e
  rw [h] at h'
  exact hne (Option.some.inj h')
theorem PlF.rows (h : PlF true true true true true s f a b gt w0 q W) : Kd.N (Kd.slice 3 (Kd.int .i64)) 26 W w0.heap.size (okP w0.heap.size gt q.2.1 q.1) (.slice (some ⟨q.2.2.2, 0, none⟩) 1 1) [[a, b]] := by
  refine Kd.N_mono (row_two (h.r rfl).2 (h.o rfl).2 (h.r rfl).1 (h.o rfl).1) (fun k hk => ?_)
  rcases hk with rfl | rfl
  · exact ⟨(h.r rfl).1, blk_ne (h.r rfl).2 h.kt (fun e => by injection e with _ h2; exact absurd h2 (by decide)), blk_ne (h.r rfl).2 (h.g rfl).2 (fun e => by injection e with _ h2; exact absurd h2 (by decide)), blk_ne (h.r rfl).2 (h.m rfl).1 (fun e => by cases e)⟩
  · exact ⟨(h.o rfl).1, blk_ne (h.o rfl).2 h.kt (fun e => by injection e with _ h2; exact absurd h2 (by decide)), blk_ne (h.o rfl).2 (h.g rfl).2 (fun e => by injection e with _ h2; exact absurd h2 (by decide)), blk_ne (h.o rfl).2 (h.m rfl).1 (fun e => by cases e)⟩
end
end Go.Proofs.Ytgahigmpcgfbeaa.P
end

section
namespace Go.Proofs.Ytgahigmpcgfbeaa.P
open Go.RowKit Go.Proofs.YtgahigmpcgfbeaaW.PrintWords Go.Proofs.YtgahigmpcgfbeaaW.PrintLast Go.Proofs.YtgahigmpcgfbeaaW.PrintMore
attribute [local go_sem] max2_int min2_int max_two min_two max_three min_three max_four min_four
set_option linter.unusedVariables false
set_option linter.unusedSimpArgs false
def playL (s f : Int) : Int → Int → List Int → Option (List (List Int))
  | _, _, [] => some []
  | a, b, x :: l => (tk 0 s f a b x).bind fun t =>
    if t = 0 ∧ a + x ≤ s then (playL s f (a + x) b l).map ([a + x, b] :: ·)
    else if t = 1 ∧ b + x ≤ s then (playL s f a (b + x) l).map ([a, b + x] :: ·)
    else if t = -1 then (playL s f a b l).map ([a, b] :: ·) else none
theorem Pm.fresh {s f a b : Int} {gt gm B : Nat} {w0 W : World} (h : Pm s f a b gt gm B w0 W) : ∀ k, W.heap.size ≤ k → okP w0.heap.size gt gm B k := fun k hk =>
  ⟨by have := h.bw.size; omega, by have := blk_lt h.kt; omega, by have := blk_lt h.km; omega, by have := h.map.lt; omega⟩
theorem Pm.put4 {s f a b : Int} {gt gm B : Nat} {w0 W : World} (h : Pm s f a b gt gm B w0 W) (hgt : w0.heap.size ≤ gt) (hne : gm ≠ gt) (a2 b2 : Int) :
    Pm s f a2 b2 gt gm B w0 ((((W.setCell ⟨gt, 0, none⟩ (.int .i64 s)).setCell ⟨gt, 1, none⟩ (.int .i64 f)).setCell ⟨gt, 2, none⟩ (.int .i64 a2)).setCell ⟨gt, 3, none⟩ (.int .i64 b2)) := by
  have far : ∀ k, k ≠ gt → ((((W.setCell ⟨gt, 0, none⟩ (.int .i64 s)).setCell ⟨gt, 1, none⟩ (.int .i64 f)).setCell ⟨gt, 2, none⟩ (.int .i64 a2)).setCell ⟨gt, 3, none⟩ (.int .i64 b2)).heap[k]? = W.heap[k]? := fun k hk => by
    rw [Below.heap_setCell _ ⟨gt, 3, none⟩ _ k hk, Below.heap_setCell _ ⟨gt, 2, none⟩ _ k hk, Below.heap_setCell _ ⟨gt, 1, none⟩ _ k hk, Below.heap_setCell _ ⟨gt, 0, none⟩ _ k hk]
  refine ⟨h.map.same (far _ h.nt.symm), ?_, (far _ hne).trans h.km, h.nt, h.nm, h.lo, (((h.bw.setCell (p := ⟨gt, 0, none⟩) hgt _).setCell (p := ⟨gt, 1, none⟩) hgt _).setCell (p := ⟨gt, 2, none⟩) hgt _).setCell (p := ⟨gt, 3, none⟩) hgt _⟩
  have h1 := heap_setCell_same W gt 0 _ _ (.int .i64 s) h.kt
  have h2 := heap_setCell_same _ gt 1 _ _ (.int .i64 f) h1
  have h3 := heap_setCell_same _ gt 2 _ _ (.int .i64 a2) h2
  have h4 := heap_setCell_same _ gt 3 _ _ (.int .i64 b2) h3
  simpa using h4
theorem N_put4 {s f : Int} {gt gm B n : Nat} {W : World} {v : Value} {xs : List (List Int)} (h : Kd.N (Kd.slice 3 (Kd.int .i64)) 26 W n (okP n gt gm B) v xs) (a2 b2 : Int) :
    Kd.N (Kd.slice 3 (Kd.int .i64)) 26 ((((W.setCell ⟨gt, 0, none⟩ (.int .i64 s)).setCell ⟨gt, 1, none⟩ (.int .i64 f)).setCell ⟨gt, 2, none⟩ (.int .i64 a2)).setCell ⟨gt, 3, none⟩ (.int .i64 b2)) n (okP n gt gm B) v xs :=
  Kd.N_far (p := ⟨gt, 3, none⟩) (Kd.N_far (p := ⟨gt, 2, none⟩) (Kd.N_far (p := ⟨gt, 1, none⟩) (Kd.N_far (p := ⟨gt, 0, none⟩) h (fun _ hk => hk.2.1) _) (fun _ hk => hk.2.1) _) (fun _ hk => hk.2.1) _) (fun _ hk => hk.2.1) _
theorem rdP {w wr : World} {A : Option Addr} {n k : Nat} {l : List Int} (h : Kd.C (Kd.int .i64) w A n l) (hb : Below w.heap.size w wr) (hk : k < l.length) :
    ∃ ad, A = some ad ∧ wr.cell? (ad.add k) = some (.int .i64 l[k]) := by
  obtain ⟨ad, e, h0⟩ := Kd.at_int h k (by omega) (by have := h.1; omega)
  have hg : rd l k = l[k] := by simp [rd, hk]
  rw [hg, Int.toNat_natCast] at h0
  exact ⟨ad, e, (hb.cell (World.block_lt_of_cell? w _ h0)).trans h0⟩
theorem playL_cons {s f a b x : Int} {l : List Int} {xs r : List (List Int)} (h : (playL s f a b (x :: l)).map (xs ++ ·) = some r) :
    (tk 0 s f a b x = some 0 ∧ a + x ≤ s ∧ (playL s f (a + x) b l).map ((xs ++ [[a + x, b]]) ++ ·) = some r) ∨ (tk 0 s f a b x = some 1 ∧ b + x ≤ s ∧ (playL s f a (b + x) l).map ((xs ++ [[a, b + x]]) ++ ·) = some r) ∨ (tk 0 s f a b x = some (-1) ∧ (playL s f a b l).map ((xs ++ [[a, b]]) ++ ·) = some r) := by
  rw [playL] at h
  cases e : tk 0 s f a b x with
  | none => rw [e] at h; simp at h
  | some t =>
    rw [e] at h
    simp only [Option.bind_some] at h
    split at h
    · next c => obtain ⟨rfl, hc⟩ := c; exact Or.inl ⟨rfl, hc, by rw [← h, Option.map_map]; congr 1; funext z; simp⟩
    · split at h
      · next c => obtain ⟨rfl, hc⟩ := c; exact Or.inr (Or.inl ⟨rfl, hc, by rw [← h, Option.map_map]; congr 1; funext z; simp⟩)
      · split at h
        · next c => subst c; exact Or.inr (Or.inr ⟨rfl, by rw [← h, Option.map_map]; congr 1; funext z; simp⟩)
        · simp at h
set_option maxHeartbeats 3200000 in
set_option maxRecDepth 100000 in
theorem twins_play (s f a b : Int) (A : Option Addr) (c : Nat) (l : List Int) (r : List (List Int)) (w : World) (hr : Kd.C (Kd.int .i64) w A l.length l) (hc : l.length ≤ c) (hG : prG s f a b = true) (hl : ∀ x ∈ l, 1 ≤ x ∧ x ≤ f) (hn : l.length ≤ 60) (h : (playL s f a b l).map ([a, b] :: ·) = some r) :
    Calls Try.prog 204 #[tw s f a b, .slice A l.length c] w fun e w' => ∃ v0_ : Value, e = .returned (v0_) ∧ Kd.N (Kd.slice 3 (Kd.int .i64)) 26 w' w.heap.size (fun k_ => (w.heap.size ≤ k_)) v0_ r ∧ Below w.heap.size w w' := by
  have HR := Aside0.mk hr
  have HC := Aside0.mk hc
  have H := Aside0.mk h
  have HL := Aside0.mk hl
  obtain ⟨hs, hf, ha, hb⟩ := prG_iff.1 hG
  clear hr hc h hG hl
  have HF := Aside0.mk (⟨blk_new w (.cells #[.int .i64 s, .int .i64 f, .int .i64 a, .int .i64 b] 133), below_alloc (Below.refl w.heap.size w) _, fun e => absurd e (by decide), fun e => absurd e (by decide), fun e => absurd e (by decide), fun e => absurd e (by decide)⟩ :
    PlF false false false false false s f a b w.heap.size w (0, 0, 0, 0) (w.alloc (.cells #[.int .i64 s, .int .i64 f, .int .i64 a, .int .i64 b] 133)))
  have hsc := @store_func Try.prog (.func 245) #[] #[]
  go_enter Try.func204, Try.ntmps204
  go_upto_region 1 with fail
  obtain ⟨W0, hW0⟩ : ∃ W0, W0 = w.alloc (.cells #[.int .i64 s, .int .i64 f, .int .i64 a, .int .i64 b] 133) := ⟨_, rfl⟩
  rw [← hW0] at HF ⊢
  clear hW0
  have HF := Aside0.mk HF.out.drew
  refine start_ (n := 12) (S := fun w' => w'.cell? ⟨w.heap.size, 0, none⟩ = some (.int .i64 s) ∧ w'.cell? ⟨w.heap.size, 1, none⟩ = some (.int .i64 f) ∧ w'.cell? ⟨w.heap.size, 2, none⟩ = some (.int .i64 a) ∧ w'.cell? ⟨w.heap.size, 3, none⟩ = some (.int .i64 b)) (ds := []) #[false, false, false, false, false, false, false, false, false, false, false, false] (by kernel_rfl) rfl rfl ⟨(blk_cell (HF.out.kt) 0).trans rfl, (blk_cell (HF.out.kt) 1).trans rfl, (blk_cell (HF.out.kt) 2).trans rfl, (blk_cell (HF.out.kt) 3).trans rfl⟩ (fun hHeld => ?_)
  refine pure_ (i := 1) (N := some 11) (v := ?_) (a' := ?_) #[false, true, false, false, false, false, false, false, false, false, false, false] rfl rfl (by kernel_rfl) (fun _ _ _ h => h) (Or.inl ⟨by rfl, ?_⟩) ?_ ?_
  rotate_left
  · intro w'
    go_simp
    with_reducible rfl
  rotate_left
  · simp only [Act.put, List.setIfInBounds_toArray, List.set_cons_zero, List.set_cons_succ, i64_w, i32_w]
    rfl
  refine pure_ (i := 2) (N := some 12) (v := ?_) (a' := ?_) #[false, true, true, false, false, false, false, false, false, false, false, false] rfl rfl (by kernel_rfl) (fun _ _ _ h => h) (Or.inl ⟨by rfl, ?_⟩) ?_ ?_
  rotate_left
  · intro w'
    go_simp
    with_reducible rfl
  rotate_left
  · simp only [Act.put, List.setIfInBounds_toArray, List.set_cons_zero, List.set_cons_succ, i64_w, i32_w]
    rfl
  refine pure_ (i := 4) (N := some 14) (v := ?_) (a' := ?_) #[false, true, true, false, true, false, false, false, false, false, false, false] rfl rfl (by kernel_rfl) (fun _ _ _ h => h) (Or.inl ⟨by rfl, ?_⟩) ?_ ?_
  rotate_left
  · intro w'
    go_simp
    with_reducible rfl
  rotate_left
  · simp only [Act.put, List.setIfInBounds_toArray, List.set_cons_zero, List.set_cons_succ, i64_w, i32_w]
    rfl
  refine pure_ (i := 5) (N := some 15) (v := ?_) (a' := ?_) #[false, true, true, false, true, true, false, false, false, false, false, false] rfl rfl (by kernel_rfl) (fun _ _ _ h => h) (Or.inl ⟨by rfl, ?_⟩) ?_ ?_
  rotate_left
  · intro w'
    go_simp
    with_reducible rfl
  rotate_left
  · simp only [Act.put, List.setIfInBounds_toArray, List.set_cons_zero, List.set_cons_succ, i64_w, i32_w]
    rfl
  refine take_ (i := 3) (N := some 13) (v := ?_) (a' := ?_) #[false, true, true, true, true, true, false, false, false, false, false, false] rfl rfl (by kernel_rfl) (fun _ _ _ h => h) (Or.inl ⟨by rfl, ?_⟩) hHeld ?_ ?_
  rotate_left
  · rintro w' ⟨s0, s1, s2, s3⟩
    go_simp
    with_reducible rfl
  rotate_left
  · simp only [Act.put, List.setIfInBounds_toArray, List.set_cons_zero, List.set_cons_succ, i64_w, i32_w]
    rfl
  refine take_ (i := 6) (N := some 16) (v := ?_) (a' := ?_) #[false, true, true, true, true, true, true, false, false, false, false, false] rfl rfl (by kernel_rfl) (fun _ _ _ h => h) (Or.inl ⟨by rfl, ?_⟩) hHeld ?_ ?_
  rotate_left
  · rintro w' ⟨s0, s1, s2, s3⟩
    go_simp
    with_reducible rfl
  rotate_left
  · simp only [Act.put, List.setIfInBounds_toArray, List.set_cons_zero, List.set_cons_succ, i64_w, i32_w]
    rfl
  refine join_ (σ := Nat × Nat × Nat × Nat) 1 #[true, true, true, true, true, true, true, true, true, true, true, false] (fun q => [(10, .agg #[chO, .map (some q.1)]), (17, .slice (some ⟨q.2.2.1, 0, none⟩) 2 2), (18, .slice (some ⟨q.2.2.2, 0, none⟩) 1 1), (5, .pointer (some ⟨q.2.1, 0, none⟩))]) (fun q W => PlF true true true true true s f a b w.heap.size w q W) ?_ ?_
  rotate_left
  · intro hJ0_7_8_9_10
    refine join_ (σ := Nat × Nat × Nat × Nat) 2 #[true, true, true, true, true, true, true, true, true, true, false, false] (fun q => [(10, .agg #[chO, .map (some q.1)]), (17, .slice (some ⟨q.2.2.1, 0, none⟩) 2 2), (18, .slice (some ⟨q.2.2.2, 0, none⟩) 1 1), (5, .pointer (some ⟨q.2.1, 0, none⟩))]) (fun q W => PlF true true true true false s f a b w.heap.size w q W) ?_ ?_
    rotate_left
    · intro hJ0_7_8_9
      refine join_ (σ := Nat × Nat × Nat × Nat) 2 #[true, true, true, true, true, true, true, true, false, true, true, false] (fun q => [(10, .agg #[chO, .map (some q.1)]), (17, .slice (some ⟨q.2.2.1, 0, none⟩) 2 2), (5, .pointer (some ⟨q.2.1, 0, none⟩))]) (fun q W => PlF true true false true true s f a b w.heap.size w q W) ?_ ?_
      rotate_left
      · intro hJ0_7_9_10
        refine join_ (σ := Nat × Nat × Nat × Nat) 3 #[true, true, true, true, true, true, true, true, true, false, false, false] (fun q => [(10, .agg #[chO, .map (some q.1)]), (17, .slice (some ⟨q.2.2.1, 0, none⟩) 2 2), (18, .slice (some ⟨q.2.2.2, 0, none⟩) 1 1)]) (fun q W => PlF true true true false false s f a b w.heap.size w q W) ?_ ?_
        rotate_left
        · intro hJ0_7_8
          refine join_ (σ := Nat × Nat × Nat × Nat) 3 #[true, true, true, true, true, true, true, true, false, true, false, false] (fun q => [(10, .agg #[chO, .map (some q.1)]), (17, .slice (some ⟨q.2.2.1, 0, none⟩) 2 2), (5, .pointer (some ⟨q.2.1, 0, none⟩))]) (fun q W => PlF true true false true false s f a b w.heap.size w q W) ?_ ?_
          rotate_left
          · intro hJ0_7_9
            refine join_ (σ := Nat × Nat × Nat × Nat) 3 #[true, true, true, true, true, true, true, false, false, true, true, false] (fun q => [(10, .agg #[chO, .map (some q.1)]), (5, .pointer (some ⟨q.2.1, 0, none⟩))]) (fun q W => PlF true false false true true s f a b w.heap.size w q W) ?_ ?_
            rotate_left
            · intro hJ0_9_10
              refine join_ (σ := Nat × Nat × Nat × Nat) 3 #[false, true, true, true, true, true, true, true, true, true, false, false] (fun q => [(17, .slice (some ⟨q.2.2.1, 0, none⟩) 2 2), (18, .slice (some ⟨q.2.2.2, 0, none⟩) 1 1), (5, .pointer (some ⟨q.2.1, 0, none⟩))]) (fun q W => PlF false true true true false s f a b w.heap.size w q W) ?_ ?_
              rotate_left
              · intro hJ7_8_9
                refine join_ (σ := Nat × Nat × Nat × Nat) 4 #[true, true, true, true, true, true, true, true, false, false, false, false] (fun q => [(10, .agg #[chO, .map (some q.1)]), (17, .slice (some ⟨q.2.2.1, 0, none⟩) 2 2)]) (fun q W => PlF true true false false false s f a b w.heap.size w q W) ?_ ?_
                rotate_left
                · intro hJ0_7
                  refine join_ (σ := Nat × Nat × Nat × Nat) 4 #[true, true, true, true, true, true, true, false, false, true, false, false] (fun q => [(10, .agg #[chO, .map (some q.1)]), (5, .pointer (some ⟨q.2.1, 0, none⟩))]) (fun q W => PlF true false false true false s f a b w.heap.size w q W) ?_ ?_
                  rotate_left
                  · intro hJ0_9
                    refine join_ (σ := Nat × Nat × Nat × Nat) 4 #[false, true, true, true, true, true, true, true, true, false, false, false] (fun q => [(17, .slice (some ⟨q.2.2.1, 0, none⟩) 2 2), (18, .slice (some ⟨q.2.2.2, 0, none⟩) 1 1)]) (fun q W => PlF false true true false false s f a b w.heap.size w q W) ?_ ?_
                    rotate_left
                    · intro hJ7_8
                      refine join_ (σ := Nat × Nat × Nat × Nat) 4 #[false, true, true, true, true, true, true, true, false, true, false, false] (fun q => [(17, .slice (some ⟨q.2.2.1, 0, none⟩) 2 2), (5, .pointer (some ⟨q.2.1, 0, none⟩))]) (fun q W => PlF false true false true false s f a b w.heap.size w q W) ?_ ?_
                      rotate_left
                      · intro hJ7_9
                        refine join_ (σ := Nat × Nat × Nat × Nat) 5 #[true, true, true, true, true, true, true, false, false, false, false, false] (fun q => [(10, .agg #[chO, .map (some q.1)])]) (fun q W => PlF true false false false false s f a b w.heap.size w q W) ?_ ?_
                        rotate_left
                        · intro hJ0
                          refine join_ (σ := Nat × Nat × Nat × Nat) 5 #[false, true, true, true, true, true, true, true, false, false, false, false] (fun q => [(17, .slice (some ⟨q.2.2.1, 0, none⟩) 2 2)]) (fun q W => PlF false true false false false s f a b w.heap.size w q W) ?_ ?_
                          rotate_left
                          · intro hJ7
                            refine join_ (σ := Nat × Nat × Nat × Nat) 5 #[false, true, true, true, true, true, true, false, false, true, false, false] (fun q => [(5, .pointer (some ⟨q.2.1, 0, none⟩))]) (fun q W => PlF false false false true false s f a b w.heap.size w q W) ?_ ?_
                            rotate_left
                            · intro hJ9
                              refine three_ (i := 0) (j := 7) (k := 9) (Ni := some 10) (Nj := some 17) (Nk := some 5) #[true, true, true, true, true, true, true, false, false, false, false, false] #[false, true, true, true, true, true, true, true, false, false, false, false] #[false, true, true, true, true, true, true, false, false, true, false, false] rfl rfl rfl rfl rfl rfl (by kernel_rfl) (by decide) (by decide) (by decide) (fun K hK => ?_) (fun K hK => ?_) (fun K hK => ?_)
                              · skip
                                refine goes_ Try.func249 (by kernel_rfl) rfl #[chO] (by rfl) rfl rfl (by simp only [List.map_toArray, List.map_cons, List.map_nil]; rfl) ?_
                                with_reducible refine (twins_new 245 #[] #[] _).mono ?_
                                rintro e w5 ⟨rfl, hm5, hb5⟩
                                refine ⟨_, rfl, ?_⟩
                                refine hK.out _ _ ⟨(blk_cell ((HF.out.call hb5 hm5).kt) 0).trans rfl, (blk_cell ((HF.out.call hb5 hm5).kt) 1).trans rfl, (blk_cell ((HF.out.call hb5 hm5).kt) 2).trans rfl, (blk_cell ((HF.out.call hb5 hm5).kt) 3).trans rfl⟩ (fun hHeld => ?_)
                                clear hK K
                                refine norm_ (a' := ?_) ?_ ?_
                                rotate_left
                                · show Act.put _ (some 10) _ = _
                                  simp only [Act.put, List.setIfInBounds_toArray, List.set_cons_zero, List.set_cons_succ, i64_w, i32_w]
                                  rfl
                                exact norm_ (by first | (simp only [putAll, Act.put, List.setIfInBounds_toArray, List.set_cons_zero, List.set_cons_succ]; done) | (simp only [putAll, Act.put, List.setIfInBounds_toArray, List.set_cons_zero, List.set_cons_succ]; rfl)) (hJ0 _ _ (HF.out.call hb5 hm5))
                              · skip
                                refine value_ (w1 := ?_) (v := ?_) (by rfl) rfl ?_ ?_
                                rotate_left 2
                                · go_simp
                                  constructor
                                  · rfl
                                  · rfl
                                refine hK.out _ _ ⟨(blk_cell (HF.out.all7.kt) 0).trans rfl, (blk_cell (HF.out.all7.kt) 1).trans rfl, (blk_cell (HF.out.all7.kt) 2).trans rfl, (blk_cell (HF.out.all7.kt) 3).trans rfl⟩ (fun hHeld => ?_)
                                clear hK K
                                refine norm_ (a' := ?_) ?_ ?_
                                rotate_left
                                · show Act.put _ (some 17) _ = _
                                  simp only [Act.put, List.setIfInBounds_toArray, List.set_cons_zero, List.set_cons_succ, i64_w, i32_w]
                                  rfl
                                exact norm_ (by first | (simp only [putAll, Act.put, List.setIfInBounds_toArray, List.set_cons_zero, List.set_cons_succ]; done) | (simp only [putAll, Act.put, List.setIfInBounds_toArray, List.set_cons_zero, List.set_cons_succ]; rfl)) (hJ7 _ _ HF.out.all7)
                              · skip
                                refine value_ (w1 := ?_) (v := ?_) (by rfl) rfl ?_ ?_
                                rotate_left 2
                                · go_simp
                                  constructor
                                  · rfl
                                  · rfl
                                refine hK.out _ _ ⟨(blk_cell (HF.out.all9.kt) 0).trans rfl, (blk_cell (HF.out.all9.kt) 1).trans rfl, (blk_cell (HF.out.all9.kt) 2).trans rfl, (blk_cell (HF.out.all9.kt) 3).trans rfl⟩ (fun hHeld => ?_)
                                clear hK K
                                refine norm_ (a' := ?_) ?_ ?_
                                rotate_left
                                · show Act.put _ (some 5) _ = _
                                  simp only [Act.put, List.setIfInBounds_toArray, List.set_cons_zero, List.set_cons_succ, i64_w, i32_w]
                                  rfl
                                exact norm_ (by first | (simp only [putAll, Act.put, List.setIfInBounds_toArray, List.set_cons_zero, List.set_cons_succ]; done) | (simp only [putAll, Act.put, List.setIfInBounds_toArray, List.set_cons_zero, List.set_cons_succ]; rfl)) (hJ9 _ _ HF.out.all9)
                            · skip
                              rintro q_ w' HF'
                              have HF := Aside0.mk HF'
                              clear HF'
                              have hHeld : w'.cell? ⟨w.heap.size, 0, none⟩ = some (.int .i64 s) ∧ w'.cell? ⟨w.heap.size, 1, none⟩ = some (.int .i64 f) ∧ w'.cell? ⟨w.heap.size, 2, none⟩ = some (.int .i64 a) ∧ w'.cell? ⟨w.heap.size, 3, none⟩ = some (.int .i64 b) := ⟨(blk_cell (HF.out.kt) 0).trans rfl, (blk_cell (HF.out.kt) 1).trans rfl, (blk_cell (HF.out.kt) 2).trans rfl, (blk_cell (HF.out.kt) 3).trans rfl⟩
                              refine norm_ (a' := ?_) ?_ ?_
                              rotate_left
                              · simp only [putAll, Act.put, List.setIfInBounds_toArray, List.set_cons_zero, List.set_cons_succ]
                                rfl
                              refine two_ (i := 0) (j := 7) (Ni := some 10) (Nj := some 17) #[true, true, true, true, true, true, true, false, false, true, false, false] #[false, true, true, true, true, true, true, true, false, true, false, false] rfl rfl rfl rfl (by kernel_rfl) (by decide) (by decide) (fun K hK => ?_) (fun K hK => ?_)
                              · skip
                                refine goes_ Try.func249 (by kernel_rfl) rfl #[chO] (by rfl) rfl rfl (by simp only [List.map_toArray, List.map_cons, List.map_nil]; rfl) ?_
                                with_reducible refine (twins_new 245 #[] #[] _).mono ?_
                                rintro e w5 ⟨rfl, hm5, hb5⟩
                                refine ⟨_, rfl, ?_⟩
                                refine hK.out _ _ ⟨(blk_cell ((HF.out.call hb5 hm5).kt) 0).trans rfl, (blk_cell ((HF.out.call hb5 hm5).kt) 1).trans rfl, (blk_cell ((HF.out.call hb5 hm5).kt) 2).trans rfl, (blk_cell ((HF.out.call hb5 hm5).kt) 3).trans rfl⟩ (fun hHeld => ?_)
                                clear hK K
                                refine norm_ (a' := ?_) ?_ ?_
                                rotate_left
                                · show Act.put _ (some 10) _ = _
                                  simp only [Act.put, List.setIfInBounds_toArray, List.set_cons_zero, List.set_cons_succ, i64_w, i32_w]
                                  rfl
                                exact norm_ (by first | (simp only [putAll, Act.put, List.setIfInBounds_toArray, List.set_cons_zero, List.set_cons_succ]; done) | (simp only [putAll, Act.put, List.setIfInBounds_toArray, List.set_cons_zero, List.set_cons_succ]; rfl)) (hJ0_9 _ _ (HF.out.call hb5 hm5))
                              · skip
                                refine value_ (w1 := ?_) (v := ?_) (by rfl) rfl ?_ ?_
                                rotate_left 2
                                · go_simp
                                  constructor
                                  · rfl
                                  · rfl
                                refine hK.out _ _ ⟨(blk_cell (HF.out.all7.kt) 0).trans rfl, (blk_cell (HF.out.all7.kt) 1).trans rfl, (blk_cell (HF.out.all7.kt) 2).trans rfl, (blk_cell (HF.out.all7.kt) 3).trans rfl⟩ (fun hHeld => ?_)
                                clear hK K
                                refine norm_ (a' := ?_) ?_ ?_
                                rotate_left
                                · show Act.put _ (some 17) _ = _
                                  simp only [Act.put, List.setIfInBounds_toArray, List.set_cons_zero, List.set_cons_succ, i64_w, i32_w]
                                  rfl
                                exact norm_ (by first | (simp only [putAll, Act.put, List.setIfInBounds_toArray, List.set_cons_zero, List.set_cons_succ]; done) | (simp only [putAll, Act.put, List.setIfInBounds_toArray, List.set_cons_zero, List.set_cons_succ]; rfl)) (hJ7_9 _ _ HF.out.all7)
                          · skip
                            rintro q_ w' HF'
                            have HF := Aside0.mk HF'
                            clear HF'
                            have hHeld : w'.cell? ⟨w.heap.size, 0, none⟩ = some (.int .i64 s) ∧ w'.cell? ⟨w.heap.size, 1, none⟩ = some (.int .i64 f) ∧ w'.cell? ⟨w.heap.size, 2, none⟩ = some (.int .i64 a) ∧ w'.cell? ⟨w.heap.size, 3, none⟩ = some (.int .i64 b) := ⟨(blk_cell (HF.out.kt) 0).trans rfl, (blk_cell (HF.out.kt) 1).trans rfl, (blk_cell (HF.out.kt) 2).trans rfl, (blk_cell (HF.out.kt) 3).trans rfl⟩
                            refine norm_ (a' := ?_) ?_ ?_
                            rotate_left
                            · simp only [putAll, Act.put, List.setIfInBounds_toArray, List.set_cons_zero, List.set_cons_succ]
                              rfl
                            refine three_ (i := 0) (j := 8) (k := 9) (Ni := some 10) (Nj := some 18) (Nk := some 5) #[true, true, true, true, true, true, true, true, false, false, false, false] #[false, true, true, true, true, true, true, true, true, false, false, false] #[false, true, true, true, true, true, true, true, false, true, false, false] rfl rfl rfl rfl rfl rfl (by kernel_rfl) (by decide) (by decide) (by decide) (fun K hK => ?_) (fun K hK => ?_) (fun K hK => ?_)
                            · skip
                              refine goes_ Try.func249 (by kernel_rfl) rfl #[chO] (by rfl) rfl rfl (by simp only [List.map_toArray, List.map_cons, List.map_nil]; rfl) ?_
                              with_reducible refine (twins_new 245 #[] #[] _).mono ?_
                              rintro e w5 ⟨rfl, hm5, hb5⟩
                              refine ⟨_, rfl, ?_⟩
                              refine hK.out _ _ ⟨(blk_cell ((HF.out.call hb5 hm5).kt) 0).trans rfl, (blk_cell ((HF.out.call hb5 hm5).kt) 1).trans rfl, (blk_cell ((HF.out.call hb5 hm5).kt) 2).trans rfl, (blk_cell ((HF.out.call hb5 hm5).kt) 3).trans rfl⟩ (fun hHeld => ?_)
                              clear hK K
                              refine norm_ (a' := ?_) ?_ ?_
                              rotate_left
                              · show Act.put _ (some 10) _ = _
                                simp only [Act.put, List.setIfInBounds_toArray, List.set_cons_zero, List.set_cons_succ, i64_w, i32_w]
                                rfl
                              exact norm_ (by first | (simp only [putAll, Act.put, List.setIfInBounds_toArray, List.set_cons_zero, List.set_cons_succ]; done) | (simp only [putAll, Act.put, List.setIfInBounds_toArray, List.set_cons_zero, List.set_cons_succ]; rfl)) (hJ0_7 _ _ (HF.out.call hb5 hm5))
                            · skip
                              refine value_ (w1 := ?_) (v := ?_) (by rfl) rfl ?_ ?_
                              rotate_left 2
                              · go_simp
                                constructor
                                · rfl
                                · rfl
                              refine hK.out _ _ ⟨(blk_cell (HF.out.all8.kt) 0).trans rfl, (blk_cell (HF.out.all8.kt) 1).trans rfl, (blk_cell (HF.out.all8.kt) 2).trans rfl, (blk_cell (HF.out.all8.kt) 3).trans rfl⟩ (fun hHeld => ?_)
                              clear hK K
                              refine norm_ (a' := ?_) ?_ ?_
                              rotate_left
                              · show Act.put _ (some 18) _ = _
                                simp only [Act.put, List.setIfInBounds_toArray, List.set_cons_zero, List.set_cons_succ, i64_w, i32_w]
                                rfl
                              exact norm_ (by first | (simp only [putAll, Act.put, List.setIfInBounds_toArray, List.set_cons_zero, List.set_cons_succ]; done) | (simp only [putAll, Act.put, List.setIfInBounds_toArray, List.set_cons_zero, List.set_cons_succ]; rfl)) (hJ7_8 _ _ HF.out.all8)
                            · skip
                              refine value_ (w1 := ?_) (v := ?_) (by rfl) rfl ?_ ?_
                              rotate_left 2
                              · go_simp
                                constructor
                                · rfl
                                · rfl
                              refine hK.out _ _ ⟨(blk_cell (HF.out.all9.kt) 0).trans rfl, (blk_cell (HF.out.all9.kt) 1).trans rfl, (blk_cell (HF.out.all9.kt) 2).trans rfl, (blk_cell (HF.out.all9.kt) 3).trans rfl⟩ (fun hHeld => ?_)
                              clear hK K
                              refine norm_ (a' := ?_) ?_ ?_
                              rotate_left
                              · show Act.put _ (some 5) _ = _
                                simp only [Act.put, List.setIfInBounds_toArray, List.set_cons_zero, List.set_cons_succ, i64_w, i32_w]
                                rfl
                              exact norm_ (by first | (simp only [putAll, Act.put, List.setIfInBounds_toArray, List.set_cons_zero, List.set_cons_succ]; done) | (simp only [putAll, Act.put, List.setIfInBounds_toArray, List.set_cons_zero, List.set_cons_succ]; rfl)) (hJ7_9 _ _ HF.out.all9)
                        · skip
                          rintro q_ w' HF'
                          have HF := Aside0.mk HF'
                          clear HF'
                          have hHeld : w'.cell? ⟨w.heap.size, 0, none⟩ = some (.int .i64 s) ∧ w'.cell? ⟨w.heap.size, 1, none⟩ = some (.int .i64 f) ∧ w'.cell? ⟨w.heap.size, 2, none⟩ = some (.int .i64 a) ∧ w'.cell? ⟨w.heap.size, 3, none⟩ = some (.int .i64 b) := ⟨(blk_cell (HF.out.kt) 0).trans rfl, (blk_cell (HF.out.kt) 1).trans rfl, (blk_cell (HF.out.kt) 2).trans rfl, (blk_cell (HF.out.kt) 3).trans rfl⟩
                          refine norm_ (a' := ?_) ?_ ?_
                          rotate_left
                          · simp only [putAll, Act.put, List.setIfInBounds_toArray, List.set_cons_zero, List.set_cons_succ]
                            rfl
                          refine two_ (i := 7) (j := 9) (Ni := some 17) (Nj := some 5) #[true, true, true, true, true, true, true, true, false, false, false, false] #[true, true, true, true, true, true, true, false, false, true, false, false] rfl rfl rfl rfl (by kernel_rfl) (by decide) (by decide) (fun K hK => ?_) (fun K hK => ?_)
                          · skip
                            refine value_ (w1 := ?_) (v := ?_) (by rfl) rfl ?_ ?_
                            rotate_left 2
                            · go_simp
                              constructor
                              · rfl
                              · rfl
                            refine hK.out _ _ ⟨(blk_cell (HF.out.all7.kt) 0).trans rfl, (blk_cell (HF.out.all7.kt) 1).trans rfl, (blk_cell (HF.out.all7.kt) 2).trans rfl, (blk_cell (HF.out.all7.kt) 3).trans rfl⟩ (fun hHeld => ?_)
                            clear hK K
                            refine norm_ (a' := ?_) ?_ ?_
                            rotate_left
                            · show Act.put _ (some 17) _ = _
                              simp only [Act.put, List.setIfInBounds_toArray, List.set_cons_zero, List.set_cons_succ, i64_w, i32_w]
                              rfl
                            exact norm_ (by first | (simp only [putAll, Act.put, List.setIfInBounds_toArray, List.set_cons_zero, List.set_cons_succ]; done) | (simp only [putAll, Act.put, List.setIfInBounds_toArray, List.set_cons_zero, List.set_cons_succ]; rfl)) (hJ0_7 _ _ HF.out.all7)
                          · skip
                            refine value_ (w1 := ?_) (v := ?_) (by rfl) rfl ?_ ?_
                            rotate_left 2
                            · go_simp
                              constructor
                              · rfl
                              · rfl
                            refine hK.out _ _ ⟨(blk_cell (HF.out.all9.kt) 0).trans rfl, (blk_cell (HF.out.all9.kt) 1).trans rfl, (blk_cell (HF.out.all9.kt) 2).trans rfl, (blk_cell (HF.out.all9.kt) 3).trans rfl⟩ (fun hHeld => ?_)
                            clear hK K
                            refine norm_ (a' := ?_) ?_ ?_
                            rotate_left
                            · show Act.put _ (some 5) _ = _
                              simp only [Act.put, List.setIfInBounds_toArray, List.set_cons_zero, List.set_cons_succ, i64_w, i32_w]
                              rfl
                            exact norm_ (by first | (simp only [putAll, Act.put, List.setIfInBounds_toArray, List.set_cons_zero, List.set_cons_succ]; done) | (simp only [putAll, Act.put, List.setIfInBounds_toArray, List.set_cons_zero, List.set_cons_succ]; rfl)) (hJ0_9 _ _ HF.out.all9)
                      · skip
                        rintro q_ w' HF'
                        have HF := Aside0.mk HF'
                        clear HF'
                        have hHeld : w'.cell? ⟨w.heap.size, 0, none⟩ = some (.int .i64 s) ∧ w'.cell? ⟨w.heap.size, 1, none⟩ = some (.int .i64 f) ∧ w'.cell? ⟨w.heap.size, 2, none⟩ = some (.int .i64 a) ∧ w'.cell? ⟨w.heap.size, 3, none⟩ = some (.int .i64 b) := ⟨(blk_cell (HF.out.kt) 0).trans rfl, (blk_cell (HF.out.kt) 1).trans rfl, (blk_cell (HF.out.kt) 2).trans rfl, (blk_cell (HF.out.kt) 3).trans rfl⟩
                        refine norm_ (a' := ?_) ?_ ?_
                        rotate_left
                        · simp only [putAll, Act.put, List.setIfInBounds_toArray, List.set_cons_zero, List.set_cons_succ]
                          rfl
                        refine two_ (i := 0) (j := 8) (Ni := some 10) (Nj := some 18) #[true, true, true, true, true, true, true, true, false, true, false, false] #[false, true, true, true, true, true, true, true, true, true, false, false] rfl rfl rfl rfl (by kernel_rfl) (by decide) (by decide) (fun K hK => ?_) (fun K hK => ?_)
                        · skip
                          refine goes_ Try.func249 (by kernel_rfl) rfl #[chO] (by rfl) rfl rfl (by simp only [List.map_toArray, List.map_cons, List.map_nil]; rfl) ?_
                          with_reducible refine (twins_new 245 #[] #[] _).mono ?_
                          rintro e w5 ⟨rfl, hm5, hb5⟩
                          refine ⟨_, rfl, ?_⟩
                          refine hK.out _ _ ⟨(blk_cell ((HF.out.call hb5 hm5).kt) 0).trans rfl, (blk_cell ((HF.out.call hb5 hm5).kt) 1).trans rfl, (blk_cell ((HF.out.call hb5 hm5).kt) 2).trans rfl, (blk_cell ((HF.out.call hb5 hm5).kt) 3).trans rfl⟩ (fun hHeld => ?_)
                          clear hK K
                          refine norm_ (a' := ?_) ?_ ?_
                          rotate_left
                          · show Act.put _ (some 10) _ = _
                            simp only [Act.put, List.setIfInBounds_toArray, List.set_cons_zero, List.set_cons_succ, i64_w, i32_w]
                            rfl
                          exact norm_ (by first | (simp only [putAll, Act.put, List.setIfInBounds_toArray, List.set_cons_zero, List.set_cons_succ]; done) | (simp only [putAll, Act.put, List.setIfInBounds_toArray, List.set_cons_zero, List.set_cons_succ]; rfl)) (hJ0_7_9 _ _ (HF.out.call hb5 hm5))
                        · skip
                          refine value_ (w1 := ?_) (v := ?_) (by rfl) rfl ?_ ?_
                          rotate_left 2
                          · go_simp
                            constructor
                            · rfl
                            · rfl
                          refine hK.out _ _ ⟨(blk_cell (HF.out.all8.kt) 0).trans rfl, (blk_cell (HF.out.all8.kt) 1).trans rfl, (blk_cell (HF.out.all8.kt) 2).trans rfl, (blk_cell (HF.out.all8.kt) 3).trans rfl⟩ (fun hHeld => ?_)
                          clear hK K
                          refine norm_ (a' := ?_) ?_ ?_
                          rotate_left
                          · show Act.put _ (some 18) _ = _
                            simp only [Act.put, List.setIfInBounds_toArray, List.set_cons_zero, List.set_cons_succ, i64_w, i32_w]
                            rfl
                          exact norm_ (by first | (simp only [putAll, Act.put, List.setIfInBounds_toArray, List.set_cons_zero, List.set_cons_succ]; done) | (simp only [putAll, Act.put, List.setIfInBounds_toArray, List.set_cons_zero, List.set_cons_succ]; rfl)) (hJ7_8_9 _ _ HF.out.all8)
                    · skip
                      rintro q_ w' HF'
                      have HF := Aside0.mk HF'
                      clear HF'
                      have hHeld : w'.cell? ⟨w.heap.size, 0, none⟩ = some (.int .i64 s) ∧ w'.cell? ⟨w.heap.size, 1, none⟩ = some (.int .i64 f) ∧ w'.cell? ⟨w.heap.size, 2, none⟩ = some (.int .i64 a) ∧ w'.cell? ⟨w.heap.size, 3, none⟩ = some (.int .i64 b) := ⟨(blk_cell (HF.out.kt) 0).trans rfl, (blk_cell (HF.out.kt) 1).trans rfl, (blk_cell (HF.out.kt) 2).trans rfl, (blk_cell (HF.out.kt) 3).trans rfl⟩
                      refine norm_ (a' := ?_) ?_ ?_
                      rotate_left
                      · simp only [putAll, Act.put, List.setIfInBounds_toArray, List.set_cons_zero, List.set_cons_succ]
                        rfl
                      refine two_ (i := 0) (j := 9) (Ni := some 10) (Nj := some 5) #[true, true, true, true, true, true, true, true, true, false, false, false] #[false, true, true, true, true, true, true, true, true, true, false, false] rfl rfl rfl rfl (by kernel_rfl) (by decide) (by decide) (fun K hK => ?_) (fun K hK => ?_)
                      · skip
                        refine goes_ Try.func249 (by kernel_rfl) rfl #[chO] (by rfl) rfl rfl (by simp only [List.map_toArray, List.map_cons, List.map_nil]; rfl) ?_
                        with_reducible refine (twins_new 245 #[] #[] _).mono ?_
                        rintro e w5 ⟨rfl, hm5, hb5⟩
                        refine ⟨_, rfl, ?_⟩
                        refine hK.out _ _ ⟨(blk_cell ((HF.out.call hb5 hm5).kt) 0).trans rfl, (blk_cell ((HF.out.call hb5 hm5).kt) 1).trans rfl, (blk_cell ((HF.out.call hb5 hm5).kt) 2).trans rfl, (blk_cell ((HF.out.call hb5 hm5).kt) 3).trans rfl⟩ (fun hHeld => ?_)
                        clear hK K
                        refine norm_ (a' := ?_) ?_ ?_
                        rotate_left
                        · show Act.put _ (some 10) _ = _
                          simp only [Act.put, List.setIfInBounds_toArray, List.set_cons_zero, List.set_cons_succ, i64_w, i32_w]
                          rfl
                        exact norm_ (by first | (simp only [putAll, Act.put, List.setIfInBounds_toArray, List.set_cons_zero, List.set_cons_succ]; done) | (simp only [putAll, Act.put, List.setIfInBounds_toArray, List.set_cons_zero, List.set_cons_succ]; rfl)) (hJ0_7_8 _ _ (HF.out.call hb5 hm5))
                      · skip
                        refine value_ (w1 := ?_) (v := ?_) (by rfl) rfl ?_ ?_
                        rotate_left 2
                        · go_simp
                          constructor
                          · rfl
                          · rfl
                        refine hK.out _ _ ⟨(blk_cell (HF.out.all9.kt) 0).trans rfl, (blk_cell (HF.out.all9.kt) 1).trans rfl, (blk_cell (HF.out.all9.kt) 2).trans rfl, (blk_cell (HF.out.all9.kt) 3).trans rfl⟩ (fun hHeld => ?_)
                        clear hK K
                        refine norm_ (a' := ?_) ?_ ?_
                        rotate_left
                        · show Act.put _ (some 5) _ = _
                          simp only [Act.put, List.setIfInBounds_toArray, List.set_cons_zero, List.set_cons_succ, i64_w, i32_w]
                          rfl
                        exact norm_ (by first | (simp only [putAll, Act.put, List.setIfInBounds_toArray, List.set_cons_zero, List.set_cons_succ]; done) | (simp only [putAll, Act.put, List.setIfInBounds_toArray, List.set_cons_zero, List.set_cons_succ]; rfl)) (hJ7_8_9 _ _ HF.out.all9)
                  · skip
                    rintro q_ w' HF'
                    have HF := Aside0.mk HF'
                    clear HF'
                    have hHeld : w'.cell? ⟨w.heap.size, 0, none⟩ = some (.int .i64 s) ∧ w'.cell? ⟨w.heap.size, 1, none⟩ = some (.int .i64 f) ∧ w'.cell? ⟨w.heap.size, 2, none⟩ = some (.int .i64 a) ∧ w'.cell? ⟨w.heap.size, 3, none⟩ = some (.int .i64 b) := ⟨(blk_cell (HF.out.kt) 0).trans rfl, (blk_cell (HF.out.kt) 1).trans rfl, (blk_cell (HF.out.kt) 2).trans rfl, (blk_cell (HF.out.kt) 3).trans rfl⟩
                    refine norm_ (a' := ?_) ?_ ?_
                    rotate_left
                    · simp only [putAll, Act.put, List.setIfInBounds_toArray, List.set_cons_zero, List.set_cons_succ]
                      rfl
                    refine two_ (i := 7) (j := 10) (Ni := some 17) (Nj := none) #[true, true, true, true, true, true, true, true, false, true, false, false] #[true, true, true, true, true, true, true, false, false, true, true, false] rfl rfl rfl rfl (by kernel_rfl) (by decide) (by decide) (fun K hK => ?_) (fun K hK => ?_)
                    · skip
                      refine value_ (w1 := ?_) (v := ?_) (by rfl) rfl ?_ ?_
                      rotate_left 2
                      · go_simp
                        constructor
                        · rfl
                        · rfl
                      refine hK.out _ _ ⟨(blk_cell (HF.out.all7.kt) 0).trans rfl, (blk_cell (HF.out.all7.kt) 1).trans rfl, (blk_cell (HF.out.all7.kt) 2).trans rfl, (blk_cell (HF.out.all7.kt) 3).trans rfl⟩ (fun hHeld => ?_)
                      clear hK K
                      refine norm_ (a' := ?_) ?_ ?_
                      rotate_left
                      · show Act.put _ (some 17) _ = _
                        simp only [Act.put, List.setIfInBounds_toArray, List.set_cons_zero, List.set_cons_succ, i64_w, i32_w]
                        rfl
                      exact norm_ (by first | (simp only [putAll, Act.put, List.setIfInBounds_toArray, List.set_cons_zero, List.set_cons_succ]; done) | (simp only [putAll, Act.put, List.setIfInBounds_toArray, List.set_cons_zero, List.set_cons_succ]; rfl)) (hJ0_7_9 _ _ HF.out.all7)
                    · skip
                      have y0_ := (blk_cell (HF.out.g rfl).2 0).trans rfl
                      have y1_ := (blk_cell (HF.out.g rfl).2 1).trans rfl
                      have z0_ := blk_frozen (HF.out.g rfl).2 0
                      have z1_ := blk_frozen (HF.out.g rfl).2 1
                      refine skip_ (w1 := ?_) (by rfl) rfl ?_ ?_
                      rotate_left
                      · go_simp
                        rfl
                      refine hK.out _ _ ⟨(blk_cell (HF.out.put.kt) 0).trans rfl, (blk_cell (HF.out.put.kt) 1).trans rfl, (blk_cell (HF.out.put.kt) 2).trans rfl, (blk_cell (HF.out.put.kt) 3).trans rfl⟩ (fun hHeld => ?_)
                      clear hK K
                      exact norm_ (by first | (simp only [putAll, Act.put, List.setIfInBounds_toArray, List.set_cons_zero, List.set_cons_succ]; done) | (simp only [putAll, Act.put, List.setIfInBounds_toArray, List.set_cons_zero, List.set_cons_succ]; rfl)) (hJ0_9_10 _ _ HF.out.put)
                · skip
                  rintro q_ w' HF'
                  have HF := Aside0.mk HF'
                  clear HF'
                  have hHeld : w'.cell? ⟨w.heap.size, 0, none⟩ = some (.int .i64 s) ∧ w'.cell? ⟨w.heap.size, 1, none⟩ = some (.int .i64 f) ∧ w'.cell? ⟨w.heap.size, 2, none⟩ = some (.int .i64 a) ∧ w'.cell? ⟨w.heap.size, 3, none⟩ = some (.int .i64 b) := ⟨(blk_cell (HF.out.kt) 0).trans rfl, (blk_cell (HF.out.kt) 1).trans rfl, (blk_cell (HF.out.kt) 2).trans rfl, (blk_cell (HF.out.kt) 3).trans rfl⟩
                  refine norm_ (a' := ?_) ?_ ?_
                  rotate_left
                  · simp only [putAll, Act.put, List.setIfInBounds_toArray, List.set_cons_zero, List.set_cons_succ]
                    rfl
                  refine two_ (i := 8) (j := 9) (Ni := some 18) (Nj := some 5) #[true, true, true, true, true, true, true, true, true, false, false, false] #[true, true, true, true, true, true, true, true, false, true, false, false] rfl rfl rfl rfl (by kernel_rfl) (by decide) (by decide) (fun K hK => ?_) (fun K hK => ?_)
                  · skip
                    refine value_ (w1 := ?_) (v := ?_) (by rfl) rfl ?_ ?_
                    rotate_left 2
                    · go_simp
                      constructor
                      · rfl
                      · rfl
                    refine hK.out _ _ ⟨(blk_cell (HF.out.all8.kt) 0).trans rfl, (blk_cell (HF.out.all8.kt) 1).trans rfl, (blk_cell (HF.out.all8.kt) 2).trans rfl, (blk_cell (HF.out.all8.kt) 3).trans rfl⟩ (fun hHeld => ?_)
                    clear hK K
                    refine norm_ (a' := ?_) ?_ ?_
                    rotate_left
                    · show Act.put _ (some 18) _ = _
                      simp only [Act.put, List.setIfInBounds_toArray, List.set_cons_zero, List.set_cons_succ, i64_w, i32_w]
                      rfl
                    exact norm_ (by first | (simp only [putAll, Act.put, List.setIfInBounds_toArray, List.set_cons_zero, List.set_cons_succ]; done) | (simp only [putAll, Act.put, List.setIfInBounds_toArray, List.set_cons_zero, List.set_cons_succ]; rfl)) (hJ0_7_8 _ _ HF.out.all8)
                  · skip
                    refine value_ (w1 := ?_) (v := ?_) (by rfl) rfl ?_ ?_
                    rotate_left 2
                    · go_simp
                      constructor
                      · rfl
                      · rfl
                    refine hK.out _ _ ⟨(blk_cell (HF.out.all9.kt) 0).trans rfl, (blk_cell (HF.out.all9.kt) 1).trans rfl, (blk_cell (HF.out.all9.kt) 2).trans rfl, (blk_cell (HF.out.all9.kt) 3).trans rfl⟩ (fun hHeld => ?_)
                    clear hK K
                    refine norm_ (a' := ?_) ?_ ?_
                    rotate_left
                    · show Act.put _ (some 5) _ = _
                      simp only [Act.put, List.setIfInBounds_toArray, List.set_cons_zero, List.set_cons_succ, i64_w, i32_w]
                      rfl
                    exact norm_ (by first | (simp only [putAll, Act.put, List.setIfInBounds_toArray, List.set_cons_zero, List.set_cons_succ]; done) | (simp only [putAll, Act.put, List.setIfInBounds_toArray, List.set_cons_zero, List.set_cons_succ]; rfl)) (hJ0_7_9 _ _ HF.out.all9)
              · skip
                rintro q_ w' HF'
                have HF := Aside0.mk HF'
                clear HF'
                have hHeld : w'.cell? ⟨w.heap.size, 0, none⟩ = some (.int .i64 s) ∧ w'.cell? ⟨w.heap.size, 1, none⟩ = some (.int .i64 f) ∧ w'.cell? ⟨w.heap.size, 2, none⟩ = some (.int .i64 a) ∧ w'.cell? ⟨w.heap.size, 3, none⟩ = some (.int .i64 b) := ⟨(blk_cell (HF.out.kt) 0).trans rfl, (blk_cell (HF.out.kt) 1).trans rfl, (blk_cell (HF.out.kt) 2).trans rfl, (blk_cell (HF.out.kt) 3).trans rfl⟩
                refine norm_ (a' := ?_) ?_ ?_
                rotate_left
                · simp only [putAll, Act.put, List.setIfInBounds_toArray, List.set_cons_zero, List.set_cons_succ]
                  rfl
                refine one_ (i := 0) (N := some 10) #[true, true, true, true, true, true, true, true, true, true, false, false] rfl rfl (by kernel_rfl) (by decide) (fun K hK => ?_)
                refine goes_ Try.func249 (by kernel_rfl) rfl #[chO] (by rfl) rfl rfl (by simp only [List.map_toArray, List.map_cons, List.map_nil]; rfl) ?_
                with_reducible refine (twins_new 245 #[] #[] _).mono ?_
                rintro e w5 ⟨rfl, hm5, hb5⟩
                refine ⟨_, rfl, ?_⟩
                refine hK.out _ _ ⟨(blk_cell ((HF.out.call hb5 hm5).kt) 0).trans rfl, (blk_cell ((HF.out.call hb5 hm5).kt) 1).trans rfl, (blk_cell ((HF.out.call hb5 hm5).kt) 2).trans rfl, (blk_cell ((HF.out.call hb5 hm5).kt) 3).trans rfl⟩ (fun hHeld => ?_)
                clear hK K
                refine norm_ (a' := ?_) ?_ ?_
                rotate_left
                · show Act.put _ (some 10) _ = _
                  simp only [Act.put, List.setIfInBounds_toArray, List.set_cons_zero, List.set_cons_succ, i64_w, i32_w]
                  rfl
                exact norm_ (by first | (simp only [putAll, Act.put, List.setIfInBounds_toArray, List.set_cons_zero, List.set_cons_succ]; done) | (simp only [putAll, Act.put, List.setIfInBounds_toArray, List.set_cons_zero, List.set_cons_succ]; rfl)) (hJ0_7_8_9 _ _ (HF.out.call hb5 hm5))
            · skip
              rintro q_ w' HF'
              have HF := Aside0.mk HF'
              clear HF'
              have hHeld : w'.cell? ⟨w.heap.size, 0, none⟩ = some (.int .i64 s) ∧ w'.cell? ⟨w.heap.size, 1, none⟩ = some (.int .i64 f) ∧ w'.cell? ⟨w.heap.size, 2, none⟩ = some (.int .i64 a) ∧ w'.cell? ⟨w.heap.size, 3, none⟩ = some (.int .i64 b) := ⟨(blk_cell (HF.out.kt) 0).trans rfl, (blk_cell (HF.out.kt) 1).trans rfl, (blk_cell (HF.out.kt) 2).trans rfl, (blk_cell (HF.out.kt) 3).trans rfl⟩
              refine norm_ (a' := ?_) ?_ ?_
              rotate_left
              · simp only [putAll, Act.put, List.setIfInBounds_toArray, List.set_cons_zero, List.set_cons_succ]
                rfl
              refine one_ (i := 7) (N := some 17) #[true, true, true, true, true, true, true, true, false, true, true, false] rfl rfl (by kernel_rfl) (by decide) (fun K hK => ?_)
              refine value_ (w1 := ?_) (v := ?_) (by rfl) rfl ?_ ?_
              rotate_left 2
              · go_simp
                constructor
                · rfl
                · rfl
              refine hK.out _ _ ⟨(blk_cell (HF.out.all7.kt) 0).trans rfl, (blk_cell (HF.out.all7.kt) 1).trans rfl, (blk_cell (HF.out.all7.kt) 2).trans rfl, (blk_cell (HF.out.all7.kt) 3).trans rfl⟩ (fun hHeld => ?_)
              clear hK K
              refine norm_ (a' := ?_) ?_ ?_
              rotate_left
              · show Act.put _ (some 17) _ = _
                simp only [Act.put, List.setIfInBounds_toArray, List.set_cons_zero, List.set_cons_succ, i64_w, i32_w]
                rfl
              exact norm_ (by first | (simp only [putAll, Act.put, List.setIfInBounds_toArray, List.set_cons_zero, List.set_cons_succ]; done) | (simp only [putAll, Act.put, List.setIfInBounds_toArray, List.set_cons_zero, List.set_cons_succ]; rfl)) (hJ0_7_9_10 _ _ HF.out.all7)
          · skip
            rintro q_ w' HF'
            have HF := Aside0.mk HF'
            clear HF'
            have hHeld : w'.cell? ⟨w.heap.size, 0, none⟩ = some (.int .i64 s) ∧ w'.cell? ⟨w.heap.size, 1, none⟩ = some (.int .i64 f) ∧ w'.cell? ⟨w.heap.size, 2, none⟩ = some (.int .i64 a) ∧ w'.cell? ⟨w.heap.size, 3, none⟩ = some (.int .i64 b) := ⟨(blk_cell (HF.out.kt) 0).trans rfl, (blk_cell (HF.out.kt) 1).trans rfl, (blk_cell (HF.out.kt) 2).trans rfl, (blk_cell (HF.out.kt) 3).trans rfl⟩
            refine norm_ (a' := ?_) ?_ ?_
            rotate_left
            · simp only [putAll, Act.put, List.setIfInBounds_toArray, List.set_cons_zero, List.set_cons_succ]
              rfl
            refine two_ (i := 8) (j := 10) (Ni := some 18) (Nj := none) #[true, true, true, true, true, true, true, true, true, true, false, false] #[true, true, true, true, true, true, true, true, false, true, true, false] rfl rfl rfl rfl (by kernel_rfl) (by decide) (by decide) (fun K hK => ?_) (fun K hK => ?_)
            · skip
              refine value_ (w1 := ?_) (v := ?_) (by rfl) rfl ?_ ?_
              rotate_left 2
              · go_simp
                constructor
                · rfl
                · rfl
              refine hK.out _ _ ⟨(blk_cell (HF.out.all8.kt) 0).trans rfl, (blk_cell (HF.out.all8.kt) 1).trans rfl, (blk_cell (HF.out.all8.kt) 2).trans rfl, (blk_cell (HF.out.all8.kt) 3).trans rfl⟩ (fun hHeld => ?_)
              clear hK K
              refine norm_ (a' := ?_) ?_ ?_
              rotate_left
              · show Act.put _ (some 18) _ = _
                simp only [Act.put, List.setIfInBounds_toArray, List.set_cons_zero, List.set_cons_succ, i64_w, i32_w]
                rfl
              exact norm_ (by first | (simp only [putAll, Act.put, List.setIfInBounds_toArray, List.set_cons_zero, List.set_cons_succ]; done) | (simp only [putAll, Act.put, List.setIfInBounds_toArray, List.set_cons_zero, List.set_cons_succ]; rfl)) (hJ0_7_8_9 _ _ HF.out.all8)
            · skip
              have y0_ := (blk_cell (HF.out.g rfl).2 0).trans rfl
              have y1_ := (blk_cell (HF.out.g rfl).2 1).trans rfl
              have z0_ := blk_frozen (HF.out.g rfl).2 0
              have z1_ := blk_frozen (HF.out.g rfl).2 1
              refine skip_ (w1 := ?_) (by rfl) rfl ?_ ?_
              rotate_left
              · go_simp
                rfl
              refine hK.out _ _ ⟨(blk_cell (HF.out.put.kt) 0).trans rfl, (blk_cell (HF.out.put.kt) 1).trans rfl, (blk_cell (HF.out.put.kt) 2).trans rfl, (blk_cell (HF.out.put.kt) 3).trans rfl⟩ (fun hHeld => ?_)
              clear hK K
              exact norm_ (by first | (simp only [putAll, Act.put, List.setIfInBounds_toArray, List.set_cons_zero, List.set_cons_succ]; done) | (simp only [putAll, Act.put, List.setIfInBounds_toArray, List.set_cons_zero, List.set_cons_succ]; rfl)) (hJ0_7_9_10 _ _ HF.out.put)
        · skip
          rintro q_ w' HF'
          have HF := Aside0.mk HF'
          clear HF'
          have hHeld : w'.cell? ⟨w.heap.size, 0, none⟩ = some (.int .i64 s) ∧ w'.cell? ⟨w.heap.size, 1, none⟩ = some (.int .i64 f) ∧ w'.cell? ⟨w.heap.size, 2, none⟩ = some (.int .i64 a) ∧ w'.cell? ⟨w.heap.size, 3, none⟩ = some (.int .i64 b) := ⟨(blk_cell (HF.out.kt) 0).trans rfl, (blk_cell (HF.out.kt) 1).trans rfl, (blk_cell (HF.out.kt) 2).trans rfl, (blk_cell (HF.out.kt) 3).trans rfl⟩
          refine norm_ (a' := ?_) ?_ ?_
          rotate_left
          · simp only [putAll, Act.put, List.setIfInBounds_toArray, List.set_cons_zero, List.set_cons_succ]
            rfl
          refine one_ (i := 9) (N := some 5) #[true, true, true, true, true, true, true, true, true, true, false, false] rfl rfl (by kernel_rfl) (by decide) (fun K hK => ?_)
          refine value_ (w1 := ?_) (v := ?_) (by rfl) rfl ?_ ?_
          rotate_left 2
          · go_simp
            constructor
            · rfl
            · rfl
          refine hK.out _ _ ⟨(blk_cell (HF.out.all9.kt) 0).trans rfl, (blk_cell (HF.out.all9.kt) 1).trans rfl, (blk_cell (HF.out.all9.kt) 2).trans rfl, (blk_cell (HF.out.all9.kt) 3).trans rfl⟩ (fun hHeld => ?_)
          clear hK K
          refine norm_ (a' := ?_) ?_ ?_
          rotate_left
          · show Act.put _ (some 5) _ = _
            simp only [Act.put, List.setIfInBounds_toArray, List.set_cons_zero, List.set_cons_succ, i64_w, i32_w]
            rfl
          exact norm_ (by first | (simp only [putAll, Act.put, List.setIfInBounds_toArray, List.set_cons_zero, List.set_cons_succ]; done) | (simp only [putAll, Act.put, List.setIfInBounds_toArray, List.set_cons_zero, List.set_cons_succ]; rfl)) (hJ0_7_8_9 _ _ HF.out.all9)
      · skip
        rintro q_ w' HF'
        have HF := Aside0.mk HF'
        clear HF'
        have hHeld : w'.cell? ⟨w.heap.size, 0, none⟩ = some (.int .i64 s) ∧ w'.cell? ⟨w.heap.size, 1, none⟩ = some (.int .i64 f) ∧ w'.cell? ⟨w.heap.size, 2, none⟩ = some (.int .i64 a) ∧ w'.cell? ⟨w.heap.size, 3, none⟩ = some (.int .i64 b) := ⟨(blk_cell (HF.out.kt) 0).trans rfl, (blk_cell (HF.out.kt) 1).trans rfl, (blk_cell (HF.out.kt) 2).trans rfl, (blk_cell (HF.out.kt) 3).trans rfl⟩
        refine norm_ (a' := ?_) ?_ ?_
        rotate_left
        · simp only [putAll, Act.put, List.setIfInBounds_toArray, List.set_cons_zero, List.set_cons_succ]
          rfl
        refine one_ (i := 8) (N := some 18) #[true, true, true, true, true, true, true, true, true, true, true, false] rfl rfl (by kernel_rfl) (by decide) (fun K hK => ?_)
        refine value_ (w1 := ?_) (v := ?_) (by rfl) rfl ?_ ?_
        rotate_left 2
        · go_simp
          constructor
          · rfl
          · rfl
        refine hK.out _ _ ⟨(blk_cell (HF.out.all8.kt) 0).trans rfl, (blk_cell (HF.out.all8.kt) 1).trans rfl, (blk_cell (HF.out.all8.kt) 2).trans rfl, (blk_cell (HF.out.all8.kt) 3).trans rfl⟩ (fun hHeld => ?_)
        clear hK K
        refine norm_ (a' := ?_) ?_ ?_
        rotate_left
        · show Act.put _ (some 18) _ = _
          simp only [Act.put, List.setIfInBounds_toArray, List.set_cons_zero, List.set_cons_succ, i64_w, i32_w]
          rfl
        exact norm_ (by first | (simp only [putAll, Act.put, List.setIfInBounds_toArray, List.set_cons_zero, List.set_cons_succ]; done) | (simp only [putAll, Act.put, List.setIfInBounds_toArray, List.set_cons_zero, List.set_cons_succ]; rfl)) (hJ0_7_8_9_10 _ _ HF.out.all8)
    · skip
      rintro q_ w' HF'
      have HF := Aside0.mk HF'
      clear HF'
      have hHeld : w'.cell? ⟨w.heap.size, 0, none⟩ = some (.int .i64 s) ∧ w'.cell? ⟨w.heap.size, 1, none⟩ = some (.int .i64 f) ∧ w'.cell? ⟨w.heap.size, 2, none⟩ = some (.int .i64 a) ∧ w'.cell? ⟨w.heap.size, 3, none⟩ = some (.int .i64 b) := ⟨(blk_cell (HF.out.kt) 0).trans rfl, (blk_cell (HF.out.kt) 1).trans rfl, (blk_cell (HF.out.kt) 2).trans rfl, (blk_cell (HF.out.kt) 3).trans rfl⟩
      refine norm_ (a' := ?_) ?_ ?_
      rotate_left
      · simp only [putAll, Act.put, List.setIfInBounds_toArray, List.set_cons_zero, List.set_cons_succ]
        rfl
      refine one_ (i := 10) (N := none) #[true, true, true, true, true, true, true, true, true, true, true, false] rfl rfl (by kernel_rfl) (by decide) (fun K hK => ?_)
      have y0_ := (blk_cell (HF.out.g rfl).2 0).trans rfl
      have y1_ := (blk_cell (HF.out.g rfl).2 1).trans rfl
      have z0_ := blk_frozen (HF.out.g rfl).2 0
      have z1_ := blk_frozen (HF.out.g rfl).2 1
      refine skip_ (w1 := ?_) (by rfl) rfl ?_ ?_
      rotate_left
      · go_simp
        rfl
      refine hK.out _ _ ⟨(blk_cell (HF.out.put.kt) 0).trans rfl, (blk_cell (HF.out.put.kt) 1).trans rfl, (blk_cell (HF.out.put.kt) 2).trans rfl, (blk_cell (HF.out.put.kt) 3).trans rfl⟩ (fun hHeld => ?_)
      clear hK K
      exact norm_ (by first | (simp only [putAll, Act.put, List.setIfInBounds_toArray, List.set_cons_zero, List.set_cons_succ]; done) | (simp only [putAll, Act.put, List.setIfInBounds_toArray, List.set_cons_zero, List.set_cons_succ]; rfl)) (hJ0_7_8_9_10 _ _ HF.out.put)
  rintro q_ w' HF'
  have HF := Aside0.mk HF'
  clear HF'
  have hHeld : w'.cell? ⟨w.heap.size, 0, none⟩ = some (.int .i64 s) ∧ w'.cell? ⟨w.heap.size, 1, none⟩ = some (.int .i64 f) ∧ w'.cell? ⟨w.heap.size, 2, none⟩ = some (.int .i64 a) ∧ w'.cell? ⟨w.heap.size, 3, none⟩ = some (.int .i64 b) := ⟨(blk_cell (HF.out.kt) 0).trans rfl, (blk_cell (HF.out.kt) 1).trans rfl, (blk_cell (HF.out.kt) 2).trans rfl, (blk_cell (HF.out.kt) 3).trans rfl⟩
  refine norm_ (a' := ?_) ?_ ?_
  rotate_left
  · simp only [putAll, Act.put, List.setIfInBounds_toArray, List.set_cons_zero, List.set_cons_succ]
    rfl
  refine pure_ (i := 11) (N := some 6) (v := ?_) (a' := ?_) #[true, true, true, true, true, true, true, true, true, true, true, true] rfl rfl (by kernel_rfl) (fun _ _ _ h => h) (Or.inl ⟨by rfl, ?_⟩) ?_ ?_
  rotate_left
  · intro w'
    go_simp
    with_reducible rfl
  rotate_left
  · simp only [Act.put, List.setIfInBounds_toArray, List.set_cons_zero, List.set_cons_succ, i64_w, i32_w]
    rfl
  refine done_ (by kernel_rfl) ?_
  obtain ⟨B, gm, rr, oo⟩ := q_
  dsimp only
  have HN := Aside0.mk HF.out.rows
  have HP := Aside0.mk (⟨memo_empty (HF.out.m rfl).1, HF.out.kt, (HF.out.g rfl).2, blk_ne HF.out.kt (HF.out.m rfl).1 (fun e => by cases e), blk_ne (HF.out.g rfl).2 (HF.out.m rfl).1 (fun e => by cases e), (HF.out.m rfl).2, HF.out.bw⟩ : Pm s f a b w.heap.size gm B w w')
  have HGM := Aside0.mk (⟨(HF.out.g rfl).1, blk_ne (HF.out.g rfl).2 HF.out.kt (fun e => by injection e with _ h2; exact absurd h2 (by decide))⟩ : w.heap.size ≤ gm ∧ gm ≠ w.heap.size)
  clear HF hHeld
  dsimp only at HN
  go_wp2
  go_loopw [6, 21] (fun v6 v21 wr => ∃ (k : Nat) (a' b' : Int) (xs : List (List Int)), v21 = .int .i64 k ∧ k ≤ l.length ∧ (0 ≤ a' ∧ a' ≤ s) ∧ (0 ≤ b' ∧ b' ≤ s) ∧ xs.length = k + 1 ∧ Aside0 ((playL s f a' b' (l.drop k)).map (xs ++ ·) = some r) ∧ Aside0 (Pm s f a' b' w.heap.size gm B w wr) ∧ Aside0 (Kd.N (Kd.slice 3 (Kd.int .i64)) 26 wr w.heap.size (okP w.heap.size w.heap.size gm B) v6 xs)) (fun _ v _ => l.length - (intOf v).toNat)
  case atStart => exact ⟨0, a, b, [[a, b]], rfl, by omega, ha, hb, rfl, ⟨by simpa using H.out⟩, HP, HN⟩
  case round =>
    clear HP HN H
    obtain ⟨k, a', b', xs, rfl, hk, ha', hb', hxs, HA, HP, HN⟩ := hrel
    have SV := HP.out.all
    have x0 := SV.2.1
    have x1 := SV.2.2.1
    have x2 := SV.2.2.2.1
    have x3 := SV.2.2.2.2.1
    have x4 := SV.2.2.2.2.2.1
    have x5 := SV.2.2.2.2.2.2
    clear SV
    by_cases hlt : k < l.length
    · obtain ⟨ad, rfl, h0⟩ := rdP HR.out HP.out.bw hlt
      have hA := HA.out
      rw [List.drop_eq_getElem_cons hlt] at hA
      have hx := HL.out l[k] (List.getElem_mem hlt)
      rcases playL_cons hA with ⟨ht, hle, hA⟩ | ⟨ht, hle, hA⟩ | ⟨ht, hA⟩
      · have HT := Aside0.mk ht
        have HA := Aside0.mk hA
        clear ht hA
        go_upto_region 8 with (first
          | (go_at_call 256; (with_reducible refine (choice_all_0 s f B a' b' l[k] 0 _ hs hf ha' hb' hx HP.out.map HT.out).mono ?_); rintro e w5 ⟨rfl, hm5, hb5⟩; have HP5 := Aside0.mk (HP.out.mean hm5 hb5); have HN5 := Aside0.mk (Kd.N_step HN.out (fun k hk hlt => hb5.block k hlt hk.2.2.2)); have SV := HP5.out.all; have y0 := SV.2.1; have y1 := SV.2.2.1; have y2 := SV.2.2.2.1; have y3 := SV.2.2.2.2.1; clear SV)
          | (go_at_call 252; (with_reducible refine (twins_moved0 s f a' b' l[k] (by omega) (by omega) (by omega) (by omega) _).mono ?_); rintro e w6 ⟨rfl, hb6⟩; have HP6 := Aside0.mk (HP5.out.below hb6); have HN6 := Aside0.mk (Kd.N_below HN5.out hb6); have SV := HP6.out.all; have u0 := SV.2.1; have u1 := SV.2.2.1; have u2 := SV.2.2.2.1; have u3 := SV.2.2.2.2.1; have z0 := blk_frozen HP6.out.kt 0; have z1 := blk_frozen HP6.out.kt 1; have z2 := blk_frozen HP6.out.kt 2; have z3 := blk_frozen HP6.out.kt 3; clear SV))
        have HP7' := HP6.out.put4 (Nat.le_refl _) HGM.out.2 (a' + l[k]) (b')
        have HN7' := N_put4 (s := s) (f := f) HN6.out (a' + l[k]) (b')
        obtain ⟨W7, hW7⟩ : ∃ W7, W7 = ((((w6.setCell ⟨w.heap.size, 0, none⟩ (.int .i64 s)).setCell ⟨w.heap.size, 1, none⟩ (.int .i64 f)).setCell ⟨w.heap.size, 2, none⟩ (.int .i64 (a' + l[k]))).setCell ⟨w.heap.size, 3, none⟩ (.int .i64 (b'))) := ⟨_, rfl⟩
        rw [← hW7] at HP7' HN7' ⊢
        have HP7 := Aside0.mk HP7'
        have HN7 := Aside0.mk HN7'
        clear hW7 HP7' HN7' u0 u1 u2 u3 z0 z1 z2 z3 y0 y1 y2 y3 HP5 HP6 HN5 HN6 HP HN x0 x1 x2 x3 x4 x5 hm5 hb5 hb6
        have SV := HP7.out.all
        have y0 := SV.2.1
        have y1 := SV.2.2.1
        have y2 := SV.2.2.2.1
        have y3 := SV.2.2.2.2.1
        clear SV
        have HFR := Aside0.mk HP7.out.fresh
        have HX := Aside0.mk (show (xs.length + 1) * 24 ≤ 140737488355328 by have := hxs; have := hk; omega)
        go_wp2_with (first
          | ((with_reducible refine gate_dst (N := 42) rfl ?_); refine Kd.R_lit (Kd.int .i64) _ 3 ?hg (N := 42) ?hd (xs := ([a' + l[k], b'] : List Int)) (inner := [.int .i64 (a' + l[k]), .int .i64 (b')]) (ok := okP w.heap.size w.heap.size gm B) (okp := okP w.heap.size w.heap.size gm B) ?hr ?hp (fun _ hk => hk) (HFR.out _ (Nat.le_refl _)) (Below.refl _ _) (Nat.le_refl _) (by simp) ?_; (case hd => rfl); (case hg => rfl); (case hr => first | (go_simp; done) | (go_simp; rfl)); (case hp => exact (Reps.one (show Kd.M (Kd.int .i64) _ _ _ (a' + l[k]) [.int .i64 (a' + l[k])] from rfl) (Reps.one (show Kd.M (Kd.int .i64) _ _ _ (b') [.int .i64 (b')] from rfl) (Reps.none _ _)))); intro v8 w8 ho8 hb8 hg_ hnew_; clear hg_ hnew_; have HP8 := Aside0.mk (HP7.out.below hb8); have HN8 := Aside0.mk (Kd.N_elder' HN7.out (Kd.R_base ho8) hb8); have HO8 := Aside0.mk ho8; clear ho8 hb8; obtain ⟨Ao8, co8, eo8⟩ := Kd.R_slice HO8.out; subst eo8)
          | ((with_reducible refine gate_builtin (b := .append) (xs := #[.tmp 35, .tmp 43]) rfl ?_); at_builtin; refine Kd.N_append (Kd.slice 3 (Kd.int .i64)) (w0 := w) w.heap.size rfl (.tmp 35) (.tmp 43) 64 26 (.slice none 0 0) 24 rfl Try.underlying64 info26 rfl (by decide) (by omega) u6 xs ([a' + l[k], b'] : List Int) [.slice Ao8 ([a' + l[k], b'] : List Int).length co8] (okP w.heap.size w.heap.size gm B) (fun k_ => okP w.heap.size w.heap.size gm B k_ ∧ some k_ ≠ (u6 : Value).ownBlock) rfl rfl ?aP (fun _ hk => hk) ?aF ?aO ?aB ?aS ?aL ?_; (case aP => exact (Kd.FK_slice_mk (Kd.R_reads' HO8.out).2.1 (Kd.R_F (Kd.R_apart' HO8.out (Kd.N_typed HN8.out) (by decide))))); (case aB => exact HP8.out.bw); (case aF => exact HP8.out.fresh); (case aO => exact Kd.N_mono HN8.out (fun _ hk => hk.1)); (case aS => exact HP8.out.bw.size); (case aL => exact HX.out); intro v9 w9 ho9 hb9 hg9 hat9; have HP9 := Aside0.mk (HP8.out.grown hg9 hb9 (Kd.N_away HN8.out (fun _ hk => hk.1.2.1)) (Kd.N_away HN8.out (fun _ hk => hk.1.2.2.1)) (Kd.N_away HN8.out (fun _ hk => hk.1.2.2.2))); have HN9 := Aside0.mk ho9; clear ho9 hb9 hg9 hat9))
        exact ⟨⟨k + 1, a' + l[k], b', xs ++ [[a' + l[k], b']], by go_num, by omega, ⟨by omega, by omega⟩, ⟨by omega, by omega⟩, by simp [hxs], HA, HP9, HN9⟩, by simp [intOf]; omega⟩
      · have HT := Aside0.mk ht
        have HA := Aside0.mk hA
        clear ht hA
        go_upto_region 8 with (first
          | (go_at_call 256; (with_reducible refine (choice_all_0 s f B a' b' l[k] 1 _ hs hf ha' hb' hx HP.out.map HT.out).mono ?_); rintro e w5 ⟨rfl, hm5, hb5⟩; have HP5 := Aside0.mk (HP.out.mean hm5 hb5); have HN5 := Aside0.mk (Kd.N_step HN.out (fun k hk hlt => hb5.block k hlt hk.2.2.2)); have SV := HP5.out.all; have y0 := SV.2.1; have y1 := SV.2.2.1; have y2 := SV.2.2.2.1; have y3 := SV.2.2.2.2.1; clear SV)
          | (go_at_call 252; (with_reducible refine (twins_moved1 s f a' b' l[k] (by omega) (by omega) (by omega) (by omega) _).mono ?_); rintro e w6 ⟨rfl, hb6⟩; have HP6 := Aside0.mk (HP5.out.below hb6); have HN6 := Aside0.mk (Kd.N_below HN5.out hb6); have SV := HP6.out.all; have u0 := SV.2.1; have u1 := SV.2.2.1; have u2 := SV.2.2.2.1; have u3 := SV.2.2.2.2.1; have z0 := blk_frozen HP6.out.kt 0; have z1 := blk_frozen HP6.out.kt 1; have z2 := blk_frozen HP6.out.kt 2; have z3 := blk_frozen HP6.out.kt 3; clear SV))
        have HP7' := HP6.out.put4 (Nat.le_refl _) HGM.out.2 (a') (b' + l[k])
        have HN7' := N_put4 (s := s) (f := f) HN6.out (a') (b' + l[k])
        obtain ⟨W7, hW7⟩ : ∃ W7, W7 = ((((w6.setCell ⟨w.heap.size, 0, none⟩ (.int .i64 s)).setCell ⟨w.heap.size, 1, none⟩ (.int .i64 f)).setCell ⟨w.heap.size, 2, none⟩ (.int .i64 (a'))).setCell ⟨w.heap.size, 3, none⟩ (.int .i64 (b' + l[k]))) := ⟨_, rfl⟩
        rw [← hW7] at HP7' HN7' ⊢
        have HP7 := Aside0.mk HP7'
        have HN7 := Aside0.mk HN7'
        clear hW7 HP7' HN7' u0 u1 u2 u3 z0 z1 z2 z3 y0 y1 y2 y3 HP5 HP6 HN5 HN6 HP HN x0 x1 x2 x3 x4 x5 hm5 hb5 hb6
        have SV := HP7.out.all
        have y0 := SV.2.1
        have y1 := SV.2.2.1
        have y2 := SV.2.2.2.1
        have y3 := SV.2.2.2.2.1
        clear SV
        have HFR := Aside0.mk HP7.out.fresh
        have HX := Aside0.mk (show (xs.length + 1) * 24 ≤ 140737488355328 by have := hxs; have := hk; omega)
        go_wp2_with (first
          | ((with_reducible refine gate_dst (N := 42) rfl ?_); refine Kd.R_lit (Kd.int .i64) _ 3 ?hg (N := 42) ?hd (xs := ([a', b' + l[k]] : List Int)) (inner := [.int .i64 (a'), .int .i64 (b' + l[k])]) (ok := okP w.heap.size w.heap.size gm B) (okp := okP w.heap.size w.heap.size gm B) ?hr ?hp (fun _ hk => hk) (HFR.out _ (Nat.le_refl _)) (Below.refl _ _) (Nat.le_refl _) (by simp) ?_; (case hd => rfl); (case hg => rfl); (case hr => first | (go_simp; done) | (go_simp; rfl)); (case hp => exact (Reps.one (show Kd.M (Kd.int .i64) _ _ _ (a') [.int .i64 (a')] from rfl) (Reps.one (show Kd.M (Kd.int .i64) _ _ _ (b' + l[k]) [.int .i64 (b' + l[k])] from rfl) (Reps.none _ _)))); intro v8 w8 ho8 hb8 hg_ hnew_; clear hg_ hnew_; have HP8 := Aside0.mk (HP7.out.below hb8); have HN8 := Aside0.mk (Kd.N_elder' HN7.out (Kd.R_base ho8) hb8); have HO8 := Aside0.mk ho8; clear ho8 hb8; obtain ⟨Ao8, co8, eo8⟩ := Kd.R_slice HO8.out; subst eo8)
          | ((with_reducible refine gate_builtin (b := .append) (xs := #[.tmp 35, .tmp 43]) rfl ?_); at_builtin; refine Kd.N_append (Kd.slice 3 (Kd.int .i64)) (w0 := w) w.heap.size rfl (.tmp 35) (.tmp 43) 64 26 (.slice none 0 0) 24 rfl Try.underlying64 info26 rfl (by decide) (by omega) u6 xs ([a', b' + l[k]] : List Int) [.slice Ao8 ([a', b' + l[k]] : List Int).length co8] (okP w.heap.size w.heap.size gm B) (fun k_ => okP w.heap.size w.heap.size gm B k_ ∧ some k_ ≠ (u6 : Value).ownBlock) rfl rfl ?aP (fun _ hk => hk) ?aF ?aO ?aB ?aS ?aL ?_; (case aP => exact (Kd.FK_slice_mk (Kd.R_reads' HO8.out).2.1 (Kd.R_F (Kd.R_apart' HO8.out (Kd.N_typed HN8.out) (by decide))))); (case aB => exact HP8.out.bw); (case aF => exact HP8.out.fresh); (case aO => exact Kd.N_mono HN8.out (fun _ hk => hk.1)); (case aS => exact HP8.out.bw.size); (case aL => exact HX.out); intro v9 w9 ho9 hb9 hg9 hat9; have HP9 := Aside0.mk (HP8.out.grown hg9 hb9 (Kd.N_away HN8.out (fun _ hk => hk.1.2.1)) (Kd.N_away HN8.out (fun _ hk => hk.1.2.2.1)) (Kd.N_away HN8.out (fun _ hk => hk.1.2.2.2))); have HN9 := Aside0.mk ho9; clear ho9 hb9 hg9 hat9))
        exact ⟨⟨k + 1, a', b' + l[k], xs ++ [[a', b' + l[k]]], by go_num, by omega, ⟨by omega, by omega⟩, ⟨by omega, by omega⟩, by simp [hxs], HA, HP9, HN9⟩, by simp [intOf]; omega⟩
      · have HT := Aside0.mk ht
        have HA := Aside0.mk hA
        clear ht hA
        go_upto_region 8 with (go_at_call 256; (with_reducible refine (choice_all_0 s f B a' b' l[k] (-1) _ hs hf ha' hb' hx HP.out.map HT.out).mono ?_); rintro e w5 ⟨rfl, hm5, hb5⟩; have HP5 := Aside0.mk (HP.out.mean hm5 hb5); have HN5 := Aside0.mk (Kd.N_step HN.out (fun k hk hlt => hb5.block k hlt hk.2.2.2)); have SV := HP5.out.all; have y0 := SV.2.1; have y1 := SV.2.2.1; have y2 := SV.2.2.2.1; have y3 := SV.2.2.2.2.1; clear SV)
        have HP7 := HP5
        have HN7 := HN5
        clear y0 y1 y2 y3 HP5 HN5 HP HN x0 x1 x2 x3 x4 x5 hm5 hb5
        have SV := HP7.out.all
        have y0 := SV.2.1
        have y1 := SV.2.2.1
        have y2 := SV.2.2.2.1
        have y3 := SV.2.2.2.2.1
        clear SV
        have HFR := Aside0.mk HP7.out.fresh
        have HX := Aside0.mk (show (xs.length + 1) * 24 ≤ 140737488355328 by have := hxs; have := hk; omega)
        go_wp2_with (first
          | ((with_reducible refine gate_dst (N := 42) rfl ?_); refine Kd.R_lit (Kd.int .i64) _ 3 ?hg (N := 42) ?hd (xs := ([a', b'] : List Int)) (inner := [.int .i64 (a'), .int .i64 (b')]) (ok := okP w.heap.size w.heap.size gm B) (okp := okP w.heap.size w.heap.size gm B) ?hr ?hp (fun _ hk => hk) (HFR.out _ (Nat.le_refl _)) (Below.refl _ _) (Nat.le_refl _) (by simp) ?_; (case hd => rfl); (case hg => rfl); (case hr => first | (go_simp; done) | (go_simp; rfl)); (case hp => exact (Reps.one (show Kd.M (Kd.int .i64) _ _ _ (a') [.int .i64 (a')] from rfl) (Reps.one (show Kd.M (Kd.int .i64) _ _ _ (b') [.int .i64 (b')] from rfl) (Reps.none _ _)))); intro v8 w8 ho8 hb8 hg_ hnew_; clear hg_ hnew_; have HP8 := Aside0.mk (HP7.out.below hb8); have HN8 := Aside0.mk (Kd.N_elder' HN7.out (Kd.R_base ho8) hb8); have HO8 := Aside0.mk ho8; clear ho8 hb8; obtain ⟨Ao8, co8, eo8⟩ := Kd.R_slice HO8.out; subst eo8)
          | ((with_reducible refine gate_builtin (b := .append) (xs := #[.tmp 35, .tmp 43]) rfl ?_); at_builtin; refine Kd.N_append (Kd.slice 3 (Kd.int .i64)) (w0 := w) w.heap.size rfl (.tmp 35) (.tmp 43) 64 26 (.slice none 0 0) 24 rfl Try.underlying64 info26 rfl (by decide) (by omega) u6 xs ([a', b'] : List Int) [.slice Ao8 ([a', b'] : List Int).length co8] (okP w.heap.size w.heap.size gm B) (fun k_ => okP w.heap.size w.heap.size gm B k_ ∧ some k_ ≠ (u6 : Value).ownBlock) rfl rfl ?aP (fun _ hk => hk) ?aF ?aO ?aB ?aS ?aL ?_; (case aP => exact (Kd.FK_slice_mk (Kd.R_reads' HO8.out).2.1 (Kd.R_F (Kd.R_apart' HO8.out (Kd.N_typed HN8.out) (by decide))))); (case aB => exact HP8.out.bw); (case aF => exact HP8.out.fresh); (case aO => exact Kd.N_mono HN8.out (fun _ hk => hk.1)); (case aS => exact HP8.out.bw.size); (case aL => exact HX.out); intro v9 w9 ho9 hb9 hg9 hat9; have HP9 := Aside0.mk (HP8.out.grown hg9 hb9 (Kd.N_away HN8.out (fun _ hk => hk.1.2.1)) (Kd.N_away HN8.out (fun _ hk => hk.1.2.2.1)) (Kd.N_away HN8.out (fun _ hk => hk.1.2.2.2))); have HN9 := Aside0.mk ho9; clear ho9 hb9 hg9 hat9))
        exact ⟨⟨k + 1, a', b', xs ++ [[a', b']], by go_num, by omega, ⟨by omega, by omega⟩, ⟨by omega, by omega⟩, by simp [hxs], HA, HP9, HN9⟩, by simp [intOf]; omega⟩
    · obtain rfl : k = l.length := by omega
      have hA := HA.out
      rw [List.drop_length] at hA
      obtain rfl : xs = r := by simpa [playL] using hA
      go_wp2
      go_ret
      exact ⟨_, rfl, Kd.N_mono HN.out (fun _ hk => hk.1), HP.out.bw⟩
end Go.Proofs.Ytgahigmpcgfbeaa.P
end

section
namespace Go.Proofs.Ytgahigmpcgfbeaa.P
open Go.RowKit Go.Proofs.YtgahigmpcgfbeaaW.PrintWords Go.Proofs.YtgahigmpcgfbeaaW.PrintLast Go.Proofs.YtgahigmpcgfbeaaW.PrintMore
attribute [local go_sem] max2_int min2_int max_two min_two max_three min_three max_four min_four
set_option linter.unusedVariables false
set_option linter.unusedSimpArgs false
theorem play_lit (s f a b x : Int) (g : Nat) (w : World) (hg : w.heap[g]? = some (.cells #[.int .i64 s, .int .i64 f, .int .i64 a, .int .i64 b] 133 (0, 0))) :
    Calls Try.prog 202 #[.int .i64 x, .pointer (some ⟨g, 0, none⟩)] w fun e w' => e = .returned (.bool (!inn x 1 f)) ∧ Below w.heap.size w w' := by
  have z0 : w.cell? ⟨g, 0, none⟩ = some (.int .i64 s) := (blk_cell hg 0).trans rfl
  have z1 : w.cell? ⟨g, 1, none⟩ = some (.int .i64 f) := (blk_cell hg 1).trans rfl
  have z2 : w.cell? ⟨g, 2, none⟩ = some (.int .i64 a) := (blk_cell hg 2).trans rfl
  have z3 : w.cell? ⟨g, 3, none⟩ = some (.int .i64 b) := (blk_cell hg 3).trans rfl
  clear hg
  go_enter Try.func202, Try.ntmps202
  go_wp2_with (go_at_call 203; refine (twins_isFace s f a b x _).mono ?_; rintro e w1 ⟨rfl, hb⟩)
  go_ret
  exact ⟨rfl, hb⟩
set_option maxHeartbeats 800000 in
theorem play_idx (s f a b : Int) (B : Option Addr) (d : Nat) (xs : List Int) (g : Nat) (w : World) (hs : Kd.C (Kd.int .i64) w B xs.length xs) (hg : w.heap[g]? = some (.cells #[.int .i64 s, .int .i64 f, .int .i64 a, .int .i64 b] 133 (0, 0))) :
    Calls Try.prog 285 #[.slice B xs.length d, .func (.func 202) #[] #[.pointer (some ⟨g, 0, none⟩)]] w fun e w' => (∃ i : Int, e = .returned (.int .i64 i) ∧ decide (0 ≤ i) = !xs.all (inn · 1 f)) ∧ Below w.heap.size w w' := by
  have HS := Aside0.mk hs
  have HG := Aside0.mk hg
  have hl : xs.length ≤ 9223372036854775807 := hs.2.1
  clear hs hg
  go_enter Try.func285, Try.ntmps285
  go_wp2
  go_loopw [8] (fun v wr => ∃ k : Nat, v = .int .i64 k ∧ k ≤ xs.length ∧ Aside0 (xs.all (inn · 1 f) = (xs.drop k).all (inn · 1 f)) ∧ Aside0 (Below w.heap.size w wr)) (fun v _ => xs.length - (intOf v).toNat)
  case atStart => exact ⟨0, rfl, by omega, ⟨rfl⟩, ⟨Below.refl _ _⟩⟩
  case round =>
    obtain ⟨k, rfl, hk, HA, HB⟩ := hrel
    by_cases hlt : k < xs.length
    · obtain ⟨ad, rfl, h0⟩ := rdP HS.out HB.out hlt
      have HA := HA.out
      rw [List.drop_eq_getElem_cons hlt, List.all_cons] at HA
      have HA := Aside0.mk HA
      rcases Bool.eq_false_or_eq_true (inn xs[k] 1 f) with e | e
      · go_wp2_with (go_at_call 202; refine (play_lit s f a b _ g _ (blk_below HG.out HB.out)).mono ?_; rintro e w1 ⟨rfl, hb⟩)
        refine ⟨⟨k + 1, by go_num, by omega, ⟨?_⟩, ⟨HB.out.trans (hb.mono HB.out.size)⟩⟩, by simp [intOf]; omega⟩
        rw [HA.out, e]
        simp
      · go_wp2_with (go_at_call 202; refine (play_lit s f a b _ g _ (blk_below HG.out HB.out)).mono ?_; rintro e w1 ⟨rfl, hb⟩)
        go_ret
        refine ⟨⟨k, rfl, ?_⟩, HB.out.trans (hb.mono HB.out.size)⟩
        rw [HA.out, e]
        simp
    · go_wp2
      go_ret
      refine ⟨⟨-1, rfl, ?_⟩, HB.out⟩
      rw [HA.out, List.drop_eq_nil_of_le (by omega)]
      rfl
set_option maxHeartbeats 800000 in
theorem play_has (s f a b : Int) (B : Option Addr) (d : Nat) (xs : List Int) (g : Nat) (w : World) (hs : Kd.C (Kd.int .i64) w B xs.length xs) (hg : w.heap[g]? = some (.cells #[.int .i64 s, .int .i64 f, .int .i64 a, .int .i64 b] 133 (0, 0))) :
    Calls Try.prog 201 #[.slice B xs.length d, .func (.func 202) #[] #[.pointer (some ⟨g, 0, none⟩)]] w fun e w' => e = .returned (.bool (!xs.all (inn · 1 f))) ∧ Below w.heap.size w w' := by
  go_enter Try.func201, Try.ntmps201
  go_wp2_with (go_at_call 285; refine (play_idx s f a b B d xs g _ hs hg).mono ?_; rintro e w1 ⟨⟨i, rfl, hi⟩, hb⟩)
  go_ret
  exact ⟨by rw [← hi]; rfl, hb⟩
def plG (s f a b : Int) (l : List Int) : Bool := prG s f a b && decide (l.length ≤ 60) && l.all (inn · 1 f)
def impl_PlayPair.f (s f a b : Int) (l : List Int) : Option (List (List Int) × Bool) := if plG s f a b l = true then (playL s f a b l).map (fun z => ([a, b] :: z, true)) else some ([], false)
set_option maxHeartbeats 1600000 in
theorem impl_PlayPair.calls (s f a b : Int) (A : Option Addr) (c : Nat) (l : List Int) (r1 : List (List Int)) (r2 : Bool) (w : World) (hr : Kd.C (Kd.int .i64) w A l.length l) (hc : l.length ≤ c) (h : impl_PlayPair.f s f a b l = some (r1, r2)) :
    Calls Try.prog 64 #[.int .i64 s, .int .i64 f, .int .i64 a, .int .i64 b, .slice A l.length c] w fun e w' => ∃ v0_ : Value, e = .returned (.tuple #[v0_, .bool r2]) ∧ Kd.N (Kd.slice 3 (Kd.int .i64)) 26 w' w.heap.size (fun k_ => (w.heap.size ≤ k_)) v0_ r1 ∧ Below w.heap.size w w' := by
  have HR := Aside0.mk hr
  have HC := Aside0.mk hc
  have H := Aside0.mk h
  have hl : l.length ≤ 9223372036854775807 := hr.2.1
  have HB := Aside0.mk (Below.refl w.heap.size w)
  clear hr hc h
  rcases Bool.eq_false_or_eq_true (prG s f a b) with hg | hg
  · have hg' : (inn s 1 6 && inn f 1 4 && inn a 0 s && inn b 0 s) = true := hg
    by_cases hlen : l.length ≤ 60
    · have hlb : decide ((l.length : Int) > 60) = false := decide_eq_false (by omega)
      rcases Bool.eq_false_or_eq_true (l.all (inn · 1 f)) with ha | ha
      · have hpl : plG s f a b l = true := by simp [plG, hg, hlen, ha]
        have h := H.out
        rw [impl_PlayPair.f, if_pos hpl] at h
        obtain ⟨z, hz, h2⟩ := Option.map_eq_some_iff.1 h
        obtain ⟨rfl, rfl⟩ := Prod.mk.inj h2
        have HZ := Aside0.mk (show (playL s f a b l).map ([a, b] :: ·) = some ([a, b] :: z) by rw [hz]; rfl)
        have HG := Aside0.mk hg
        have HL := Aside0.mk (fun x hx => inn_iff.1 (List.all_eq_true.1 ha x hx) : ∀ x ∈ l, 1 ≤ x ∧ x ≤ f)
        have ha' : (!l.all (inn · 1 f)) = false := by rw [ha]; rfl
        clear h hz h2 H hpl
        go_enter Try.func64, Try.ntmps64
        go_wp2_with (first
          | (go_at_call 200; refine (twins_of s f a b _).mono ?_; rintro e w1 ⟨rfl, hb1⟩; have HB1 := Aside0.mk (below_alloc (bT HB.out hb1) (.cells #[.int .i64 s, .int .i64 f, .int .i64 a, .int .i64 b] 133)); have HK1 := Aside0.mk (blk_new w1 (.cells #[.int .i64 s, .int .i64 f, .int .i64 a, .int .i64 b] 133)); clear hb1)
          | (go_at_call 201; refine (play_has s f a b A c l _ _ (Kd.C_below HR.out HB1.out) HK1.out).mono ?_; rintro e w2 ⟨rfl, hb2⟩; have HB2 := Aside0.mk (bT HB1.out hb2); have HK2 := Aside0.mk (blk_below HK1.out hb2); have z0 := (blk_cell HK2.out 0).trans rfl; have z1 := (blk_cell HK2.out 1).trans rfl; have z2 := (blk_cell HK2.out 2).trans rfl; have z3 := (blk_cell HK2.out 3).trans rfl; clear hb2)
          | (go_at_call 204; refine (twins_play s f a b A c l _ _ (Kd.C_below HR.out HB2.out) HC.out HG.out HL.out hlen HZ.out).mono ?_; rintro e w3 ⟨v3, rfl, ho3, hb3⟩))
        go_ret2
        exact ⟨_, rfl, Kd.N_mono (Kd.N_lower ho3 HB2.out.size) (fun k hk => Nat.le_trans HB2.out.size hk), bT HB2.out hb3⟩
      · skip
        have hpl : ¬ plG s f a b l = true := by simp [plG, ha]
        have h := H.out
        rw [impl_PlayPair.f, if_neg hpl] at h
        obtain ⟨rfl, rfl⟩ := Prod.mk.inj (Option.some.inj h)
        have ha' : (!l.all (inn · 1 f)) = true := by rw [ha]; rfl
        clear h H hpl
        go_enter Try.func64, Try.ntmps64
        go_wp2_with (first
          | (go_at_call 200; refine (twins_of s f a b _).mono ?_; rintro e w1 ⟨rfl, hb1⟩; have HB1 := Aside0.mk (below_alloc (bT HB.out hb1) (.cells #[.int .i64 s, .int .i64 f, .int .i64 a, .int .i64 b] 133)); have HK1 := Aside0.mk (blk_new w1 (.cells #[.int .i64 s, .int .i64 f, .int .i64 a, .int .i64 b] 133)); clear hb1)
          | (go_at_call 201; refine (play_has s f a b A c l _ _ (Kd.C_below HR.out HB1.out) HK1.out).mono ?_; rintro e w2 ⟨rfl, hb2⟩; have HB2 := Aside0.mk (bT HB1.out hb2); clear hb2))
        go_ret2
        exact ⟨_, rfl, Kd.N_nil _ _ _ _ _, HB2.out⟩
    · have hlb : decide ((l.length : Int) > 60) = true := decide_eq_true (by omega)
      have hpl : ¬ plG s f a b l = true := by simp [plG, hlen]
      have h := H.out
      rw [impl_PlayPair.f, if_neg hpl] at h
      obtain ⟨rfl, rfl⟩ := Prod.mk.inj (Option.some.inj h)
      skip
      clear h H hpl
      go_enter Try.func64, Try.ntmps64
      go_wp2_with ((go_at_call 200; refine (twins_of s f a b _).mono ?_; rintro e w1 ⟨rfl, hb1⟩; have HB1 := Aside0.mk (below_alloc (bT HB.out hb1) (.cells #[.int .i64 s, .int .i64 f, .int .i64 a, .int .i64 b] 133)); have HK1 := Aside0.mk (blk_new w1 (.cells #[.int .i64 s, .int .i64 f, .int .i64 a, .int .i64 b] 133)); clear hb1))
      go_ret2
      exact ⟨_, rfl, Kd.N_nil _ _ _ _ _, HB1.out⟩
  · have hg' : (inn s 1 6 && inn f 1 4 && inn a 0 s && inn b 0 s) = false := hg
    have hpl : ¬ plG s f a b l = true := by simp [plG, hg]
    have h := H.out
    rw [impl_PlayPair.f, if_neg hpl] at h
    obtain ⟨rfl, rfl⟩ := Prod.mk.inj (Option.some.inj h)
    skip
    clear h H hpl
    go_enter Try.func64, Try.ntmps64
    go_wp2_with ((go_at_call 200; refine (twins_of s f a b _).mono ?_; rintro e w1 ⟨rfl, hb1⟩; have HB1 := Aside0.mk (below_alloc (bT HB.out hb1) (.cells #[.int .i64 s, .int .i64 f, .int .i64 a, .int .i64 b] 133)); have HK1 := Aside0.mk (blk_new w1 (.cells #[.int .i64 s, .int .i64 f, .int .i64 a, .int .i64 b] 133)); clear hb1))
    go_ret2
    exact ⟨_, rfl, Kd.N_nil _ _ _ _ _, HB1.out⟩
end Go.Proofs.Ytgahigmpcgfbeaa.P
end

section
namespace Go.Proofs.Ytgahigmpcgfbeaa.P
open Go.RowKit Go.Proofs.YtgahigmpcgfbeaaW.PrintWords Go.Proofs.YtgahigmpcgfbeaaW.PrintLast Go.Proofs.YtgahigmpcgfbeaaW.PrintMore
attribute [local go_sem] max2_int min2_int max_two min_two max_three min_three max_four min_four
set_option linter.unusedVariables false
set_option linter.unusedSimpArgs false
set_option maxHeartbeats 800000 in
theorem used_lit (s p q : Int) (A : Option Addr) (c : Nat) (g : Nat) (w : World) (hr : Kd.C (Kd.int .i64) w A ([p, q] : List Int).length [p, q]) (hg : w.heap[g]? = some (.cells #[.int .i64 s] 3 (0, 0))) (bb : Bool) (hbb : ((p == s) && (q == s)) = bb) :
    Calls Try.prog 199 #[.slice A 2 c, .pointer (some ⟨g, 0, none⟩)] w fun e w' => e = .returned (.bool bb) ∧ Below w.heap.size w w' := by
  subst hbb
  have z0 : w.cell? ⟨g, 0, none⟩ = some (.int .i64 s) := (blk_cell hg 0).trans rfl
  obtain ⟨ad, e0, h0⟩ := Kd.at_int hr 0 (by omega) (by simp)
  obtain ⟨ad', e1, h1⟩ := Kd.at_int hr 1 (by omega) (by simp)
  subst e0
  obtain rfl := Option.some.inj e1
  have h0' : w.cell? ad = some (.int .i64 p) := by have : ad.add 0 = ad := by cases ad; simp [Addr.add]
                                                   rw [← this]; exact h0
  have h1' : w.cell? { block := ad.block, off := ad.off + 1 } = some (.int .i64 q) := h1
  clear hr hg h0 h1 e1
  have HB := Aside0.mk (Below.refl w.heap.size w)
  cases c1 : (p == s) with
  | true =>
    go_enter Try.func199, Try.ntmps199
    go_upto_region 1 with fail
    refine start_ (n := 13) (S := fun w' => w'.cell? ad = some (.int .i64 p) ∧ w'.cell? { block := ad.block, off := ad.off + 1 } = some (.int .i64 q) ∧ w'.cell? ⟨g, 0, none⟩ = some (.int .i64 s)) (ds := []) #[false, false, false, false, false, false, false, false, false, false, false, false, false] (by kernel_rfl) rfl rfl ⟨h0', h1', z0⟩ (fun hHeld => ?_)
    refine pure_ (i := 0) (N := some 4) (v := ?_) (a' := ?_) #[true, false, false, false, false, false, false, false, false, false, false, false, false] rfl rfl (by kernel_rfl) (fun _ _ _ h => h) (Or.inl ⟨by rfl, ?_⟩) ?_ ?_
    rotate_left
    · intro w'
      go_simp
      with_reducible rfl
    rotate_left
    · simp only [Act.put, List.setIfInBounds_toArray, List.set_cons_zero, List.set_cons_succ, i64_w, i32_w]
      rfl
    refine pure_ (i := 1) (N := some 5) (v := ?_) (a' := ?_) #[true, true, false, false, false, false, false, false, false, false, false, false, false] rfl rfl (by kernel_rfl) (fun _ _ _ h => h) (Or.inl ⟨by rfl, ?_⟩) ?_ ?_
    rotate_left
    · intro w'
      go_simp
      with_reducible rfl
    rotate_left
    · simp only [Act.put, List.setIfInBounds_toArray, List.set_cons_zero, List.set_cons_succ, i64_w, i32_w]
      rfl
    refine take_ (i := 2) (N := some 6) (v := ?_) (a' := ?_) #[true, true, true, false, false, false, false, false, false, false, false, false, false] rfl rfl (by kernel_rfl) (fun _ _ _ h => h) (Or.inl ⟨by rfl, ?_⟩) hHeld ?_ ?_
    rotate_left
    · rintro w' ⟨s0, s1, s2⟩
      go_simp
      with_reducible rfl
    rotate_left
    · simp only [Act.put, List.setIfInBounds_toArray, List.set_cons_zero, List.set_cons_succ, i64_w, i32_w]
      rfl
    refine take_ (i := 3) (N := some 7) (v := ?_) (a' := ?_) #[true, true, true, true, false, false, false, false, false, false, false, false, false] rfl rfl (by kernel_rfl) (fun _ _ _ h => h) (Or.inl ⟨by rfl, ?_⟩) hHeld ?_ ?_
    rotate_left
    · rintro w' ⟨s0, s1, s2⟩
      go_simp
      with_reducible rfl
    rotate_left
    · simp only [Act.put, List.setIfInBounds_toArray, List.set_cons_zero, List.set_cons_succ, i64_w, i32_w]
      rfl
    refine pure_ (i := 4) (N := some 8) (v := ?_) (a' := ?_) #[true, true, true, true, true, false, false, false, false, false, false, false, false] rfl rfl (by kernel_rfl) (fun _ _ _ h => h) (Or.inl ⟨by rfl, ?_⟩) ?_ ?_
    rotate_left
    · intro w'
      go_simp
      with_reducible rfl
    rotate_left
    · simp only [Act.put, List.setIfInBounds_toArray, List.set_cons_zero, List.set_cons_succ, i64_w, i32_w]
      rfl
    refine pure_ (i := 5) (N := some 9) (v := ?_) (a' := ?_) #[true, true, true, true, true, true, false, false, false, false, false, false, false] rfl rfl (by kernel_rfl) (fun _ _ _ h => h) (Or.inl ⟨by rfl, ?_⟩) ?_ ?_
    rotate_left
    · intro w'
      go_simp
      with_reducible rfl
    rotate_left
    · simp only [Act.put, List.setIfInBounds_toArray, List.set_cons_zero, List.set_cons_succ, i64_w, i32_w]
      rfl
    refine pure_ (i := 6) (N := some 10) (v := ?_) (a' := ?_) #[true, true, true, true, true, true, true, false, false, false, false, false, false] rfl rfl (by kernel_rfl) (fun _ _ _ h => h) (Or.inl ⟨by rfl, ?_⟩) ?_ ?_
    rotate_left
    · intro w'
      go_simp
      with_reducible rfl
    rotate_left
    · simp only [Act.put, List.setIfInBounds_toArray, List.set_cons_zero, List.set_cons_succ, i64_w, i32_w]
      rfl
    refine pure_ (i := 7) (N := some 11) (v := ?_) (a' := ?_) #[true, true, true, true, true, true, true, true, false, false, false, false, false] rfl rfl (by kernel_rfl) (fun _ _ _ h => h) (Or.inl ⟨by rfl, ?_⟩) ?_ ?_
    rotate_left
    · intro w'
      go_simp
      with_reducible rfl
    rotate_left
    · simp only [Act.put, List.setIfInBounds_toArray, List.set_cons_zero, List.set_cons_succ, i64_w, i32_w]
      rfl
    refine take_ (i := 8) (N := some 12) (v := ?_) (a' := ?_) #[true, true, true, true, true, true, true, true, true, false, false, false, false] rfl rfl (by kernel_rfl) (fun _ _ _ h => h) (Or.inl ⟨by rfl, ?_⟩) hHeld ?_ ?_
    rotate_left
    · rintro w' ⟨s0, s1, s2⟩
      go_simp
      with_reducible rfl
    rotate_left
    · simp only [Act.put, List.setIfInBounds_toArray, List.set_cons_zero, List.set_cons_succ, i64_w, i32_w]
      rfl
    refine take_ (i := 9) (N := some 13) (v := ?_) (a' := ?_) #[true, true, true, true, true, true, true, true, true, true, false, false, false] rfl rfl (by kernel_rfl) (fun _ _ _ h => h) (Or.inl ⟨by rfl, ?_⟩) hHeld ?_ ?_
    rotate_left
    · rintro w' ⟨s0, s1, s2⟩
      go_simp
      with_reducible rfl
    rotate_left
    · simp only [Act.put, List.setIfInBounds_toArray, List.set_cons_zero, List.set_cons_succ, i64_w, i32_w]
      rfl
    refine pure_ (i := 10) (N := some 14) (v := ?_) (a' := ?_) #[true, true, true, true, true, true, true, true, true, true, true, false, false] rfl rfl (by kernel_rfl) (fun _ _ _ h => h) (Or.inl ⟨by rfl, ?_⟩) ?_ ?_
    rotate_left
    · intro w'
      go_simp
      with_reducible rfl
    rotate_left
    · simp only [Act.put, List.setIfInBounds_toArray, List.set_cons_zero, List.set_cons_succ, i64_w, i32_w]
      rfl
    refine pure_ (i := 11) (N := some 15) (v := ?_) (a' := ?_) #[true, true, true, true, true, true, true, true, true, true, true, true, false] rfl rfl (by kernel_rfl) (fun _ _ _ h => h) (Or.inl ⟨by rfl, ?_⟩) ?_ ?_
    rotate_left
    · intro w'
      go_simp
      with_reducible rfl
    rotate_left
    · simp only [Act.put, List.setIfInBounds_toArray, List.set_cons_zero, List.set_cons_succ, i64_w, i32_w]
      rfl
    refine pure_ (i := 12) (N := some 3) (v := ?_) (a' := ?_) #[true, true, true, true, true, true, true, true, true, true, true, true, true] rfl rfl (by kernel_rfl) (fun _ _ _ h => h) (Or.inl ⟨by rfl, ?_⟩) ?_ ?_
    rotate_left
    · intro w'
      go_simp
      with_reducible rfl
    rotate_left
    · simp only [Act.put, List.setIfInBounds_toArray, List.set_cons_zero, List.set_cons_succ, i64_w, i32_w]
      rfl
    refine done_ (by kernel_rfl) ?_
    go_wp2
    go_ret
    exact ⟨by simp, HB.out.drew⟩
  | false =>
    go_enter Try.func199, Try.ntmps199
    go_upto_region 1 with fail
    refine start_ (n := 13) (S := fun w' => w'.cell? ad = some (.int .i64 p) ∧ w'.cell? { block := ad.block, off := ad.off + 1 } = some (.int .i64 q) ∧ w'.cell? ⟨g, 0, none⟩ = some (.int .i64 s)) (ds := []) #[false, false, false, false, false, false, false, false, false, false, false, false, false] (by kernel_rfl) rfl rfl ⟨h0', h1', z0⟩ (fun hHeld => ?_)
    refine pure_ (i := 0) (N := some 4) (v := ?_) (a' := ?_) #[true, false, false, false, false, false, false, false, false, false, false, false, false] rfl rfl (by kernel_rfl) (fun _ _ _ h => h) (Or.inl ⟨by rfl, ?_⟩) ?_ ?_
    rotate_left
    · intro w'
      go_simp
      with_reducible rfl
    rotate_left
    · simp only [Act.put, List.setIfInBounds_toArray, List.set_cons_zero, List.set_cons_succ, i64_w, i32_w]
      rfl
    refine pure_ (i := 1) (N := some 5) (v := ?_) (a' := ?_) #[true, true, false, false, false, false, false, false, false, false, false, false, false] rfl rfl (by kernel_rfl) (fun _ _ _ h => h) (Or.inl ⟨by rfl, ?_⟩) ?_ ?_
    rotate_left
    · intro w'
      go_simp
      with_reducible rfl
    rotate_left
    · simp only [Act.put, List.setIfInBounds_toArray, List.set_cons_zero, List.set_cons_succ, i64_w, i32_w]
      rfl
    refine take_ (i := 2) (N := some 6) (v := ?_) (a' := ?_) #[true, true, true, false, false, false, false, false, false, false, false, false, false] rfl rfl (by kernel_rfl) (fun _ _ _ h => h) (Or.inl ⟨by rfl, ?_⟩) hHeld ?_ ?_
    rotate_left
    · rintro w' ⟨s0, s1, s2⟩
      go_simp
      with_reducible rfl
    rotate_left
    · simp only [Act.put, List.setIfInBounds_toArray, List.set_cons_zero, List.set_cons_succ, i64_w, i32_w]
      rfl
    refine take_ (i := 3) (N := some 7) (v := ?_) (a' := ?_) #[true, true, true, true, false, false, false, false, false, false, false, false, false] rfl rfl (by kernel_rfl) (fun _ _ _ h => h) (Or.inl ⟨by rfl, ?_⟩) hHeld ?_ ?_
    rotate_left
    · rintro w' ⟨s0, s1, s2⟩
      go_simp
      with_reducible rfl
    rotate_left
    · simp only [Act.put, List.setIfInBounds_toArray, List.set_cons_zero, List.set_cons_succ, i64_w, i32_w]
      rfl
    refine pure_ (i := 4) (N := some 8) (v := ?_) (a' := ?_) #[true, true, true, true, true, false, false, false, false, false, false, false, false] rfl rfl (by kernel_rfl) (fun _ _ _ h => h) (Or.inl ⟨by rfl, ?_⟩) ?_ ?_
    rotate_left
    · intro w'
      go_simp
      with_reducible rfl
    rotate_left
    · simp only [Act.put, List.setIfInBounds_toArray, List.set_cons_zero, List.set_cons_succ, i64_w, i32_w]
      rfl
    refine pure_ (i := 5) (N := some 9) (v := ?_) (a' := ?_) #[true, true, true, true, true, true, false, false, false, false, false, false, false] rfl rfl (by kernel_rfl) (fun _ _ _ h => h) (Or.inl ⟨by rfl, ?_⟩) ?_ ?_
    rotate_left
    · intro w'
      go_simp
      with_reducible rfl
    rotate_left
    · simp only [Act.put, List.setIfInBounds_toArray, List.set_cons_zero, List.set_cons_succ, i64_w, i32_w]
      rfl
    refine pure_ (i := 6) (N := some 10) (v := undef) (a' := ?_) #[true, true, true, true, true, true, true, false, false, false, false, false, false] rfl rfl (by kernel_rfl) (fun _ _ _ h => h) (Or.inr ⟨by rfl, rfl⟩) ?_ ?_
    rotate_left
    · simp only [Act.put, List.setIfInBounds_toArray, List.set_cons_zero, List.set_cons_succ, i64_w, i32_w]
      rfl
    refine pure_ (i := 7) (N := some 11) (v := undef) (a' := ?_) #[true, true, true, true, true, true, true, true, false, false, false, false, false] rfl rfl (by kernel_rfl) (fun _ _ _ h => h) (Or.inr ⟨by rfl, rfl⟩) ?_ ?_
    rotate_left
    · simp only [Act.put, List.setIfInBounds_toArray, List.set_cons_zero, List.set_cons_succ, i64_w, i32_w]
      rfl
    refine pure_ (i := 8) (N := some 12) (v := undef) (a' := ?_) #[true, true, true, true, true, true, true, true, true, false, false, false, false] rfl rfl (by kernel_rfl) (fun _ _ _ h => h) (Or.inr ⟨by rfl, rfl⟩) ?_ ?_
    rotate_left
    · simp only [Act.put, List.setIfInBounds_toArray, List.set_cons_zero, List.set_cons_succ, i64_w, i32_w]
      rfl
    refine pure_ (i := 9) (N := some 13) (v := undef) (a' := ?_) #[true, true, true, true, true, true, true, true, true, true, false, false, false] rfl rfl (by kernel_rfl) (fun _ _ _ h => h) (Or.inr ⟨by rfl, rfl⟩) ?_ ?_
    rotate_left
    · simp only [Act.put, List.setIfInBounds_toArray, List.set_cons_zero, List.set_cons_succ, i64_w, i32_w]
      rfl
    refine pure_ (i := 10) (N := some 14) (v := undef) (a' := ?_) #[true, true, true, true, true, true, true, true, true, true, true, false, false] rfl rfl (by kernel_rfl) (fun _ _ _ h => h) (Or.inr ⟨by rfl, rfl⟩) ?_ ?_
    rotate_left
    · simp only [Act.put, List.setIfInBounds_toArray, List.set_cons_zero, List.set_cons_succ, i64_w, i32_w]
      rfl
    refine pure_ (i := 11) (N := some 15) (v := ?_) (a' := ?_) #[true, true, true, true, true, true, true, true, true, true, true, true, false] rfl rfl (by kernel_rfl) (fun _ _ _ h => h) (Or.inl ⟨by rfl, ?_⟩) ?_ ?_
    rotate_left
    · intro w'
      go_simp
      with_reducible rfl
    rotate_left
    · simp only [Act.put, List.setIfInBounds_toArray, List.set_cons_zero, List.set_cons_succ, i64_w, i32_w]
      rfl
    refine pure_ (i := 12) (N := some 3) (v := ?_) (a' := ?_) #[true, true, true, true, true, true, true, true, true, true, true, true, true] rfl rfl (by kernel_rfl) (fun _ _ _ h => h) (Or.inl ⟨by rfl, ?_⟩) ?_ ?_
    rotate_left
    · intro w'
      go_simp
      with_reducible rfl
    rotate_left
    · simp only [Act.put, List.setIfInBounds_toArray, List.set_cons_zero, List.set_cons_succ, i64_w, i32_w]
      rfl
    refine done_ (by kernel_rfl) ?_
    go_wp2
    go_ret
    exact ⟨by simp, HB.out.drew⟩
def usedX (s : Int) : List (List Int) → Int → Option (Int × Bool)
  | [], _ => some (0, false)
  | [p, q] :: r, n => if p = s ∧ q = s then some (n, true) else usedX s r (n + 1)
  | _ :: _, _ => none
def impl_PairThrowsUsed.f (s f a b : Int) (l : List Int) : Option (Int × Bool) := (impl_PlayPair.f s f a b l).bind fun z => if z.2 = true then usedX s z.1 0 else some (0, false)
set_option maxHeartbeats 1600000 in
theorem used_idx (s : Int) (v : Value) (xs : List (List Int)) (base : Nat) (ok : Nat → Prop) (g : Nat) (r1 : Int) (r2 : Bool) (w : World) (hs : Kd.N (Kd.slice 3 (Kd.int .i64)) 26 w base ok v xs) (hg : w.heap[g]? = some (.cells #[.int .i64 s] 3 (0, 0))) (h : usedX s xs 0 = some (r1, r2)) (hl : xs.length ≤ 1000) :
    Calls Try.prog 198 #[v, .func (.func 199) #[] #[.pointer (some ⟨g, 0, none⟩)]] w fun e w' => e = .returned (.int .i64 (if r2 then r1 else -1)) ∧ Below w.heap.size w w' := by
  obtain ⟨A, c, rfl⟩ := Kd.N_slice hs
  have HS := Aside0.mk hs
  have HG := Aside0.mk hg
  have H := Aside0.mk h
  clear hs hg h
  go_enter Try.func198, Try.ntmps198
  go_wp2
  go_loopw [8] (fun v wr => ∃ k : Nat, v = .int .i64 k ∧ k ≤ xs.length ∧ Aside0 (usedX s (xs.drop k) k = some (r1, r2)) ∧ Aside0 (Below w.heap.size w wr)) (fun v _ => xs.length - (intOf v).toNat)
  case atStart => exact ⟨0, rfl, by omega, ⟨by simpa using H.out⟩, ⟨Below.refl _ _⟩⟩
  case round =>
    obtain ⟨k, rfl, hk, HA, HB⟩ := hrel
    by_cases hlt : k < xs.length
    · have HA := HA.out
      rw [List.drop_eq_getElem_cons hlt] at HA
      obtain ⟨p, q, hpq⟩ : ∃ p q, xs[k] = [p, q] := by
        cases e : xs[k] with
        | nil => rw [e] at HA; simp [usedX] at HA
        | cons p r =>
          cases r with
          | nil => rw [e] at HA; simp [usedX] at HA
          | cons q r =>
            cases r with
            | nil => exact ⟨p, q, rfl⟩
            | cons _ _ => rw [e] at HA; simp [usedX] at HA
      rw [hpq, usedX] at HA
      have HC := (Kd.N_reads' (Kd.N_below HS.out HB.out)).2.2
      obtain ⟨ad, e, h3⟩ := HC.2.2 (by omega)
      subst e
      obtain ⟨cs, hc1, hK, hcell⟩ := h3 k xs[k] (List.getElem?_eq_getElem hlt)
      obtain ⟨A2, c2, rfl, hc2, hrow⟩ := hK
      have h0 : wr.cell? (ad.add k) = some (.slice A2 xs[k].length c2) := by
        have := hcell 0 _ rfl
        rwa [show k * (Kd.slice 3 (Kd.int .i64)).sz + 0 = k from Nat.mul_one k] at this
      rw [hpq] at h0 hrow
      have h0' : wr.cell? (ad.add k) = some (.slice A2 2 c2) := h0
      have HR2 := Aside0.mk hrow
      have HA := Aside0.mk HA
      clear h0 hrow h3 hcell hc1 HC
      obtain ⟨bb, e⟩ : ∃ bb, ((p == s) && (q == s)) = bb := ⟨_, rfl⟩
      cases bb with
      | false =>
        go_wp2_with (go_at_call 199; refine (used_lit s p q A2 c2 g _ HR2.out (blk_below HG.out HB.out) _ e).mono ?_; rintro e w1 ⟨rfl, hb⟩)
        refine ⟨⟨k + 1, by go_num, by omega, ⟨?_⟩, ⟨HB.out.trans (hb.mono HB.out.size)⟩⟩, by simp [intOf]; omega⟩
        have h2 := HA.out
        rw [if_neg (by simpa using e)] at h2
        rw [show ((k + 1 : Nat) : Int) = (k : Int) + 1 by omega]
        exact h2
      | true =>
        have h2 := HA.out
        rw [if_pos (by simpa using e)] at h2
        obtain ⟨rfl, rfl⟩ := Prod.mk.inj (Option.some.inj h2)
        clear h2
        go_wp2_with (go_at_call 199; refine (used_lit s p q A2 c2 g _ HR2.out (blk_below HG.out HB.out) _ e).mono ?_; rintro e w1 ⟨rfl, hb⟩)
        go_ret
        exact ⟨rfl, HB.out.trans (hb.mono HB.out.size)⟩
    · have h2 := HA.out
      rw [List.drop_eq_nil_of_le (by omega), usedX] at h2
      obtain ⟨rfl, rfl⟩ := Prod.mk.inj (Option.some.inj h2)
      clear h2
      go_wp2
      go_ret
      exact ⟨rfl, HB.out⟩
theorem usedX_in (s : Int) : ∀ (xs : List (List Int)) (n r1 : Int) (r2 : Bool), usedX s xs n = some (r1, r2) → 0 ≤ n → (r2 = true → 0 ≤ r1) ∧ (r2 = false → r1 = 0)
  | [], n, r1, r2, h, _ => by obtain ⟨rfl, rfl⟩ := Prod.mk.inj (Option.some.inj h); exact ⟨fun e => absurd e (by decide), fun _ => rfl⟩
  | [p, q] :: r, n, r1, r2, h, hn => by
    rw [usedX] at h
    split at h
    · obtain ⟨rfl, rfl⟩ := Prod.mk.inj (Option.some.inj h); exact ⟨fun _ => hn, fun e => absurd e (by decide)⟩
    · exact usedX_in s r (n + 1) r1 r2 h (by omega)
  | [] :: r, n, r1, r2, h, hn => by simp [usedX] at h
  | [_] :: r, n, r1, r2, h, hn => by simp [usedX] at h
  | (_ :: _ :: _ :: _) :: r, n, r1, r2, h, hn => by simp [usedX] at h
theorem playL_len (s f : Int) : ∀ (l : List Int) (a b : Int) (r : List (List Int)), playL s f a b l = some r → r.length = l.length
  | [], a, b, r, h => by simp [playL] at h; subst h; rfl
  | x :: l, a, b, r, h => by
    have h' : (playL s f a b (x :: l)).map (([] : List (List Int)) ++ ·) = some r := by rw [h]; rfl
    rcases playL_cons h' with ⟨_, _, h2⟩ | ⟨_, _, h2⟩ | ⟨_, h2⟩ <;>
    · obtain ⟨z, hz, rfl⟩ := Option.map_eq_some_iff.1 h2
      simp [playL_len s f l _ _ z hz]
set_option maxHeartbeats 1600000 in
theorem impl_PairThrowsUsed.calls (s f a b : Int) (A : Option Addr) (c : Nat) (l : List Int) (r1 : Int) (r2 : Bool) (w : World) (hr : Kd.C (Kd.int .i64) w A l.length l) (hc : l.length ≤ c) (h : impl_PairThrowsUsed.f s f a b l = some (r1, r2)) :
    Calls Try.prog 62 #[.int .i64 s, .int .i64 f, .int .i64 a, .int .i64 b, .slice A l.length c] w fun e w' => e = .returned (.tuple #[.int .i64 r1, .bool r2]) ∧ Below w.heap.size w w' := by
  have HR := Aside0.mk hr
  have HC := Aside0.mk hc
  obtain ⟨⟨z1, z2⟩, hp, h⟩ := Option.bind_eq_some_iff.1 h
  have HP := Aside0.mk hp
  have HB := Aside0.mk (below_alloc (Below.refl w.heap.size w) (.cells #[.int .i64 s] 3))
  have HK := Aside0.mk (blk_new w (.cells #[.int .i64 s] 3))
  cases z2 with
  | false =>
    obtain ⟨rfl, rfl⟩ := Prod.mk.inj (Option.some.inj h)
    clear hr hc h hp
    go_enter Try.func62, Try.ntmps62
    go_wp2_with (go_at_call 64; refine (impl_PlayPair.calls s f a b A c l _ _ _ (Kd.C_below HR.out HB.out) HC.out HP.out).mono ?_; rintro e w1 ⟨v1, rfl, ho1, hb1⟩)
    go_ret2
    exact ⟨rfl, bT HB.out hb1⟩
  | true =>
    have hz1 : z1.length ≤ 1000 := by
      unfold impl_PlayPair.f at hp
      split at hp
      · next hg =>
        obtain ⟨z, hz, h2⟩ := Option.map_eq_some_iff.1 hp
        obtain ⟨rfl, _⟩ := Prod.mk.inj h2
        have := playL_len s f l a b z hz
        simp only [plG, Bool.and_eq_true, decide_eq_true_eq] at hg
        simp; omega
      · exact absurd (Prod.mk.inj (Option.some.inj hp)).2 (by decide)
    have H := Aside0.mk (show usedX s z1 0 = some (r1, r2) from h)
    obtain ⟨u1, u2⟩ := usedX_in s z1 0 r1 r2 h (Int.le_refl 0)
    clear hr hc h hp
    cases r2 with
    | true =>
      have hm : 0 ≤ r1 := u1 rfl
      clear u1 u2
      go_enter Try.func62, Try.ntmps62
      go_wp2_with (first
        | (go_at_call 64; refine (impl_PlayPair.calls s f a b A c l _ _ _ (Kd.C_below HR.out HB.out) HC.out HP.out).mono ?_; rintro e w1 ⟨v1, rfl, ho1, hb1⟩; have HB1 := Aside0.mk (bT HB.out hb1); have HK1 := Aside0.mk (blk_below HK.out hb1); have HO1 := Aside0.mk ho1; clear ho1 hb1)
        | (go_at_call 198; refine (used_idx s v1 z1 _ _ _ r1 true _ HO1.out HK1.out H.out hz1).mono ?_; rintro e w2 ⟨rfl, hb2⟩; rw [if_pos rfl]))
      · go_ret2
        exact ⟨by first | rfl | simp [hm], bT HB1.out hb2⟩
      · have hz : r1 = 0 := by omega
        subst hz
        go_ret2
        exact ⟨rfl, bT HB1.out hb2⟩
    | false =>
      obtain rfl : r1 = 0 := u2 rfl
      clear u1 u2
      go_enter Try.func62, Try.ntmps62
      go_wp2_with (first
        | (go_at_call 64; refine (impl_PlayPair.calls s f a b A c l _ _ _ (Kd.C_below HR.out HB.out) HC.out HP.out).mono ?_; rintro e w1 ⟨v1, rfl, ho1, hb1⟩; have HB1 := Aside0.mk (bT HB.out hb1); have HK1 := Aside0.mk (blk_below HK.out hb1); have HO1 := Aside0.mk ho1; clear ho1 hb1)
        | (go_at_call 198; refine (used_idx s v1 z1 _ _ _ 0 false _ HO1.out HK1.out H.out hz1).mono ?_; rintro e w2 ⟨rfl, hb2⟩; rw [if_neg (by decide)]))
      go_ret2
      exact ⟨rfl, bT HB1.out hb2⟩
end Go.Proofs.Ytgahigmpcgfbeaa.P
end

section
namespace Go.Proofs.Ytgahigmpcgfbeaa.P
open Go.RowKit Go.Proofs.YtgahigmpcgfbeaaW.PrintWords Go.Proofs.YtgahigmpcgfbeaaW.PrintLast Go.Proofs.YtgahigmpcgfbeaaW.PrintMore
attribute [local go_sem] max2_int min2_int max_two min_two max_three min_three max_four min_four
set_option linter.unusedVariables false
set_option linter.unusedSimpArgs false
def laws_FnExactPairThrowsUsed.j0 : Nat → List Int → List Int → Bool → Option (Bool)
  | 0, _, _, _ => none
  | k + 1, x4, x13, x47 => if x47 = true then (none) else ((laws_toIntS.f k x4).bind fun t1116 => ((laws_eqIntS.f k x13 t1116).bind fun t1119 => (if t1119 = true then (some true) else (none))))
def laws_FnExactPairThrowsUsed.f (k : Nat) (a0 : Int) (a1 : Int) (a2 : Int) (a3 : Int) (l4 : List Int) : Option (Bool) := if (l4.length : Int) > 1048576 then (some true) else ((laws_toIntS.f k l4).bind fun t1106 => ((spec_PairThrowsUsed.f k a0 a1 a2 a3 t1106).bind fun bt1109 => ((laws_toIntS.f k l4).bind fun t1111 => ((impl_PairThrowsUsed.f a0 a1 a2 a3 t1111).bind fun bt1114 => (if bt1114.1 = bt1109.1 then (laws_FnExactPairThrowsUsed.j0 k l4 t1111 (bt1114.2 != bt1109.2)) else (none))))))
theorem laws_FnExactPairThrowsUsed.mono_l : ∀ k, (∀ y0 y1 y2, LeO (laws_FnExactPairThrowsUsed.j0 k y0 y1 y2) (laws_FnExactPairThrowsUsed.j0 (k + 1) y0 y1 y2))
  | 0 => fun _ _ _ r h => by simp [laws_FnExactPairThrowsUsed.j0] at h
  | k + 1 => by
    have ih0 := laws_FnExactPairThrowsUsed.mono_l k
    · intro y0 y1 y2
      unfold laws_FnExactPairThrowsUsed.j0
      repeat' first
      | (with_reducible exact ih0 _ _ _)
      | (with_reducible exact laws_eqIntS.mono _ _ _)
      | (with_reducible exact laws_toIntS.mono _ _)
      | (with_reducible exact spec_PairThrowsUsed.mono _ _ _ _ _ _)
      | (with_reducible exact LeO.refl _)
      | (with_reducible exact LeO.none _)
      | (with_reducible refine LeO.ite ?_ ?_)
      | (with_reducible refine LeO.bind ?_ (fun _ => ?_))
      | exact ih0 _ _ _
      | exact laws_eqIntS.mono _ _ _
      | exact laws_toIntS.mono _ _
      | exact spec_PairThrowsUsed.mono _ _ _ _ _ _
      | exact LeO.none _
      | refine LeO.ite ?_ ?_
      | refine LeO.bind ?_ (fun _ => ?_)
theorem laws_FnExactPairThrowsUsed.mono : ∀ a0 a1 a2 a3 a4 k, LeO (laws_FnExactPairThrowsUsed.f k a0 a1 a2 a3 a4) (laws_FnExactPairThrowsUsed.f (k + 1) a0 a1 a2 a3 a4) := by
  intro a0 a1 a2 a3 a4 k
  have ih0 := laws_FnExactPairThrowsUsed.mono_l k
  unfold laws_FnExactPairThrowsUsed.f
  repeat' first
      | (with_reducible exact ih0 _ _ _)
      | (with_reducible exact laws_eqIntS.mono _ _ _)
      | (with_reducible exact laws_toIntS.mono _ _)
      | (with_reducible exact spec_PairThrowsUsed.mono _ _ _ _ _ _)
      | (with_reducible exact LeO.refl _)
      | (with_reducible exact LeO.none _)
      | (with_reducible refine LeO.ite ?_ ?_)
      | (with_reducible refine LeO.bind ?_ (fun _ => ?_))
      | exact ih0 _ _ _
      | exact laws_eqIntS.mono _ _ _
      | exact laws_toIntS.mono _ _
      | exact spec_PairThrowsUsed.mono _ _ _ _ _ _
      | exact LeO.none _
      | refine LeO.ite ?_ ?_
      | refine LeO.bind ?_ (fun _ => ?_)
set_option maxHeartbeats 8000000 in
set_option maxRecDepth 100000 in
theorem laws_FnExactPairThrowsUsed.calls (k : Nat) (a0 : Int) (a1 : Int) (a2 : Int) (a3 : Int) (A4 : Option Addr) (c4 : Nat) (l4 : List Int) (r : Bool) (w : World) (hr4 : Kd.C (Kd.int .i64) w A4 l4.length l4) (hc4 : l4.length ≤ c4) (h : laws_FnExactPairThrowsUsed.f k a0 a1 a2 a3 l4 = some r) :
    Calls Try.prog 6 #[.int .i64 a0, .int .i64 a1, .int .i64 a2, .int .i64 a3, .slice A4 l4.length c4] w fun e w' => e = .returned (.bool r) ∧ Below w.heap.size w w' := by
  have HR4 := Aside0.mk hr4
  have HC4 := Aside0.mk hc4
  clear hr4 hc4
  have HB := Aside0.mk (Below.refl w.heap.size w)
  have H : (if (l4.length : Int) > 1048576 then (some true) else ((laws_toIntS.f k l4).bind fun t1106 => ((spec_PairThrowsUsed.f k a0 a1 a2 a3 t1106).bind fun bt1109 => ((laws_toIntS.f k l4).bind fun t1111 => ((impl_PairThrowsUsed.f a0 a1 a2 a3 t1111).bind fun bt1114 => (if bt1114.1 = bt1109.1 then (laws_FnExactPairThrowsUsed.j0 k l4 t1111 (bt1114.2 != bt1109.2)) else (none))))))) = some r := h
  clear h
  by_cases c6 : (l4.length : Int) > 1048576
  · rw [if_pos c6] at H
    have c6b0 : decide (1048576 < (l4.length : Int)) = true := decide_eq_true c6
    have c6b1 : decide (1048576 < l4.length) = true := decide_eq_true (by omega)
    clear c6
    obtain rfl := Option.some.inj H
    go_enter Try.func6, Try.ntmps6
    go_wp2
    go_ret
    exact ⟨by first | rfl | (simp [errW_none, errW_some] <;> rfl) | (simp [*, errW_none, errW_some] <;> rfl), by repeat (first | (with_reducible first | exact HB.out | apply below_alloc | apply pw_below_drewN | apply below_drew1) | exact HB.out)⟩
  · rw [if_neg c6] at H
    have c6b0 : decide (1048576 < (l4.length : Int)) = false := decide_eq_false c6
    have c6b1 : decide (1048576 < l4.length) = false := decide_eq_false (by omega)
    clear c6
    replace H := Option.bind_eq_some_iff.mp H
    obtain ⟨t1106, A70, H⟩ := H
    replace H : ((spec_PairThrowsUsed.f k a0 a1 a2 a3 t1106).bind fun bt1109 => ((laws_toIntS.f k l4).bind fun t1111 => ((impl_PairThrowsUsed.f a0 a1 a2 a3 t1111).bind fun bt1114 => (if bt1114.1 = bt1109.1 then (laws_FnExactPairThrowsUsed.j0 k l4 t1111 (bt1114.2 != bt1109.2)) else (none))))) = some r := H
    have A7 := Aside0.mk A70
    clear A70
    replace H := Option.bind_eq_some_iff.mp H
    obtain ⟨⟨t1109, t1110⟩, A80, H⟩ := H
    replace H : ((laws_toIntS.f k l4).bind fun t1111 => ((impl_PairThrowsUsed.f a0 a1 a2 a3 t1111).bind fun bt1114 => (if bt1114.1 = t1109 then (laws_FnExactPairThrowsUsed.j0 k l4 t1111 (bt1114.2 != t1110)) else (none)))) = some r := H
    have A8 := Aside0.mk A80
    clear A80
    replace H := Option.bind_eq_some_iff.mp H
    obtain ⟨t1111, A90, H⟩ := H
    replace H : ((impl_PairThrowsUsed.f a0 a1 a2 a3 t1111).bind fun bt1114 => (if bt1114.1 = t1109 then (laws_FnExactPairThrowsUsed.j0 k l4 t1111 (bt1114.2 != t1110)) else (none))) = some r := H
    have A9 := Aside0.mk A90
    clear A90
    replace H := Option.bind_eq_some_iff.mp H
    obtain ⟨⟨t1114, t1115⟩, A100, H⟩ := H
    replace H : (if t1114 = t1109 then (laws_FnExactPairThrowsUsed.j0 k l4 t1111 (t1115 != t1110)) else (none)) = some r := H
    have A10 := Aside0.mk A100
    clear A100
    have HC11 := Aside0.mk H
    clear H
    go_enter Try.func6, Try.ntmps6
    go_upto_region 6 with (first | ((with_reducible refine gate_callee (f := 61) rfl ?_); refine goesL_ (some 25) rfl rfl Try.func61 (by kernel_rfl) rfl #[.slice A4 l4.length c4] rfl (by (try simp only [List.map_toArray, List.map_cons, List.map_nil]); first | done | rfl | (simp only [List.length_drop, List.length_take]; rfl)) ?_; (with_reducible refine (laws_toIntS.calls k _ _ l4 t1106 _ ?side1 ?side2 A7.out).mono ?_); (case side1 => repeat (first | exact HR4.out | (with_reducible refine Kd.C_alloc ?_ _) | (with_reducible refine Kd.C_drewN ?_ _) | (with_reducible refine Kd.C_drew ?_))); (case side2 => exact HC4.out); rintro e w12 ⟨v1107, rfl, ho0, hb⟩; refine ⟨_, rfl, ?_⟩; have n0_ := Aside0.mk (Kd.R_lower ho0 (below_size (by repeat (first | (with_reducible first | exact HB.out | apply below_alloc | apply pw_below_drewN | apply below_drew1) | exact HB.out)))); have n1_ := Aside0.mk (below_step (by repeat (first | (with_reducible first | exact HB.out | apply below_alloc | apply pw_below_drewN | apply below_drew1) | exact HB.out)) hb); clear HB; have HO1108 := n0_; have HB := n1_; clear n0_ n1_; (try clear hb); (try clear hb2); (try clear hk); (try clear hi); (try clear ho0); obtain ⟨Ao13, co13, eo13⟩ := Kd.R_slice HO1108.out; subst eo13) | ((with_reducible refine gate_callee (f := 60) rfl ?_); refine goesL_ (some 26) rfl rfl Try.func60 (by kernel_rfl) rfl #[.int .i64 a0, .int .i64 a1, .int .i64 a2, .int .i64 a3, .slice Ao13 t1106.length co13] rfl (by (try simp only [List.map_toArray, List.map_cons, List.map_nil]); first | done | rfl | (simp only [List.length_drop, List.length_take]; rfl)) ?_; (with_reducible refine (spec_PairThrowsUsed.calls k a0 a1 a2 a3 _ _ t1106 t1109 t1110 _ ?side1 ?side2 A8.out).mono ?_); (case side1 => repeat (first | exact (Kd.R_reads' HO1108.out).2.2 | (with_reducible refine Kd.C_alloc ?_ _) | (with_reducible refine Kd.C_drewN ?_ _) | (with_reducible refine Kd.C_drew ?_))); (case side2 => exact (Kd.R_reads' HO1108.out).2.1); rintro e w14 ⟨rfl, hb⟩; refine ⟨_, rfl, ?_⟩; have n0_ := Aside0.mk (Kd.R_below (by (with_reducible repeat (first | apply Kd.R_alloc | apply Kd.R_drewN | apply Kd.R_drew)); exact HO1108.out) hb); have n1_ := Aside0.mk (below_step (by repeat (first | (with_reducible first | exact HB.out | apply below_alloc | apply pw_below_drewN | apply below_drew1) | exact HB.out)) hb); clear HO1108; clear HB; have HO1108 := n0_; have HB := n1_; clear n0_ n1_; (try clear hb); (try clear hb2); (try clear hk); (try clear hi)) | ((with_reducible refine gate_callee (f := 61) rfl ?_); refine goesL_ (some 30) rfl rfl Try.func61 (by kernel_rfl) rfl #[.slice A4 l4.length c4] rfl (by (try simp only [List.map_toArray, List.map_cons, List.map_nil]); first | done | rfl | (simp only [List.length_drop, List.length_take]; rfl)) ?_; (with_reducible refine (laws_toIntS.calls k _ _ l4 t1111 _ ?side1 ?side2 A9.out).mono ?_); (case side1 => repeat (first | exact (Kd.C_below HR4.out HB.out) | (with_reducible refine Kd.C_alloc ?_ _) | (with_reducible refine Kd.C_drewN ?_ _) | (with_reducible refine Kd.C_drew ?_))); (case side2 => exact HC4.out); rintro e w15 ⟨v1112, rfl, ho0, hb⟩; refine ⟨_, rfl, ?_⟩; have n0_ := Aside0.mk (Kd.R_elder' (by (with_reducible repeat (first | apply Kd.R_alloc | apply Kd.R_drewN | apply Kd.R_drew)); exact HO1108.out) (Kd.R_base ho0) hb); have n1_ := Aside0.mk (Kd.R_lower (Kd.R_new' ho0 (Kd.R_lt (by (with_reducible repeat (first | apply Kd.R_alloc | apply Kd.R_drewN | apply Kd.R_drew)); exact HO1108.out))) (below_size (by repeat (first | (with_reducible first | exact HB.out | apply below_alloc | apply pw_below_drewN | apply below_drew1) | exact HB.out)))); have n2_ := Aside0.mk (below_step (by repeat (first | (with_reducible first | exact HB.out | apply below_alloc | apply pw_below_drewN | apply below_drew1) | exact HB.out)) hb); clear HO1108; clear HB; have HO1108 := n0_; have HO1113 := n1_; have HB := n2_; clear n0_ n1_ n2_; (try clear hb); (try clear hb2); (try clear hk); (try clear hi); (try clear ho0); obtain ⟨Ao16, co16, eo16⟩ := Kd.R_slice HO1113.out; subst eo16) | ((with_reducible refine gate_callee (f := 62) rfl ?_); refine goesL_ (some 37) rfl rfl Try.func62 (by kernel_rfl) rfl #[.int .i64 a0, .int .i64 a1, .int .i64 a2, .int .i64 a3, .slice Ao16 t1111.length co16] rfl (by (try simp only [List.map_toArray, List.map_cons, List.map_nil]); first | done | rfl | (simp only [List.length_drop, List.length_take]; rfl)) ?_; (with_reducible refine (impl_PairThrowsUsed.calls a0 a1 a2 a3 _ _ t1111 t1114 t1115 _ ?side1 ?side2 A10.out).mono ?_); (case side1 => repeat (first | exact (Kd.R_reads' HO1113.out).2.2 | (with_reducible refine Kd.C_alloc ?_ _) | (with_reducible refine Kd.C_drewN ?_ _) | (with_reducible refine Kd.C_drew ?_))); (case side2 => exact (Kd.R_reads' HO1113.out).2.1); rintro e w17 ⟨rfl, hb⟩; refine ⟨_, rfl, ?_⟩; have n0_ := Aside0.mk (Kd.R_below (by (with_reducible repeat (first | apply Kd.R_alloc | apply Kd.R_drewN | apply Kd.R_drew)); exact HO1108.out) hb); have n1_ := Aside0.mk (Kd.R_below (by (with_reducible repeat (first | apply Kd.R_alloc | apply Kd.R_drewN | apply Kd.R_drew)); exact HO1113.out) hb); have n2_ := Aside0.mk (below_step (by repeat (first | (with_reducible first | exact HB.out | apply below_alloc | apply pw_below_drewN | apply below_drew1) | exact HB.out)) hb); clear HO1108; clear HO1113; clear HB; have HO1108 := n0_; have HO1113 := n1_; have HB := n2_; clear n0_ n1_ n2_; (try clear hb); (try clear hb2); (try clear hk); (try clear hi)))
    (try simp only [Act.put, List.setIfInBounds_toArray, List.set_cons_zero, List.set_cons_succ])
    go_cut [47] (fun v47 wc => ∃ (kq : Nat) (x47_10 : Bool), v47 = .bool x47_10 ∧ Aside0 (laws_FnExactPairThrowsUsed.j0 kq l4 t1111 x47_10 = some r) ∧ Aside0 (kq ≤ k) ∧ Aside0 (Kd.R (Kd.int .i64) 3 wc w.heap.size (fun _ => True) (.slice Ao16 t1111.length co16) t1111) ∧ Aside0 (Below w.heap.size w wc))
    case first =>
      have H := HC11.out
      clear HC11
      by_cases c18 : t1114 = t1109
      · rw [if_pos c18] at H
        have c18b0 : (t1114 == t1109) = true := beq_iff_eq.mpr c18
        have c18b1 : (t1114 != t1109) = false := bne_eq_false_iff_eq.mpr c18
        clear c18
        (first | rw [c18b0] | (simp only [i64_w, i32_w]; rw [c18b0]) | skip)
        have H' := Aside0.mk H
        clear H
        go_wp2
        go_meet
        case rel => exact ⟨_, ((t1115 != t1110)), (by first | rfl | (simp; done) | (simp [*]; done)), H', ⟨by first | omega | exact Nat.le_refl _⟩, ⟨by (with_reducible repeat (first | apply Kd.R_alloc | apply Kd.R_drewN | apply Kd.R_drew)); exact Kd.R_mono HO1113.out (fun _ hk => trivial)⟩, ⟨by repeat (first | (with_reducible first | exact HB.out | apply below_alloc | apply pw_below_drewN | apply below_drew1) | exact HB.out)⟩⟩
      · rw [if_neg c18] at H
        exact absurd H (by simp)
    case rest =>
      clear HC11
      try clear c1
      try clear p2
      try clear c4
      try clear c6
      try clear c6b0
      try clear c6b1
      try clear c18
      try clear c18b0
      try clear c18b1
      obtain ⟨kq, x47_10, rfl, HA, HJ10, HO_13, HB⟩ := hcut
      cases kq with
      | zero => exact absurd HA.out (by simp [laws_FnExactPairThrowsUsed.j0])
      | succ kj10 =>
        have H := HA.out
        clear HA
        simp only [laws_FnExactPairThrowsUsed.j0] at H
        by_cases c19 : x47_10 = true
        · subst c19
          have H1 : (none) = some r := by rw [if_pos rfl] at H; exact H
          clear H
          have H := H1
          clear H1
          exact absurd H (by simp)
        · replace c19 := Bool.eq_false_iff.mpr c19
          subst c19
          have H1 : ((laws_toIntS.f kj10 l4).bind fun t1116 => ((laws_eqIntS.f kj10 t1111 t1116).bind fun t1119 => (if t1119 = true then (some true) else (none)))) = some r := by rw [if_neg (show ¬ (false = true) by decide)] at H; exact H
          clear H
          have H := H1
          clear H1
          replace H := Option.bind_eq_some_iff.mp H
          obtain ⟨t1116, A200, H⟩ := H
          replace H : ((laws_eqIntS.f kj10 t1111 t1116).bind fun t1119 => (if t1119 = true then (some true) else (none))) = some r := H
          have A20 := Aside0.mk A200
          clear A200
          replace H := Option.bind_eq_some_iff.mp H
          obtain ⟨t1119, A210, H⟩ := H
          replace H : (if t1119 = true then (some true) else (none)) = some r := H
          have A21 := Aside0.mk A210
          clear A210
          by_cases c22 : t1119 = true
          · subst c22
            have H1 : (some true) = some r := by rw [if_pos rfl] at H; exact H
            clear H
            have H := H1
            clear H1
            obtain rfl := Option.some.inj H
            go_wp2_with (first | ((with_reducible refine gate_callee (f := 61) rfl ?_); refine goesL_ (some 50) rfl rfl Try.func61 (by kernel_rfl) rfl #[.slice A4 l4.length c4] rfl (by (try simp only [List.map_toArray, List.map_cons, List.map_nil]); first | done | rfl | (simp only [List.length_drop, List.length_take]; rfl)) ?_; (with_reducible refine (laws_toIntS.calls kj10 _ _ l4 t1116 _ ?side1 ?side2 A20.out).mono ?_); (case side1 => repeat (first | exact (Kd.C_below HR4.out HB.out) | (with_reducible refine Kd.C_alloc ?_ _) | (with_reducible refine Kd.C_drewN ?_ _) | (with_reducible refine Kd.C_drew ?_))); (case side2 => exact HC4.out); rintro e w23 ⟨v1117, rfl, ho0, hb⟩; refine ⟨_, rfl, ?_⟩; have n0_ := Aside0.mk (Kd.R_elder' (by (with_reducible repeat (first | apply Kd.R_alloc | apply Kd.R_drewN | apply Kd.R_drew)); exact HO_13.out) (Kd.R_base ho0) hb); have n1_ := Aside0.mk (Kd.R_lower (Kd.R_new' ho0 (Kd.R_lt (by (with_reducible repeat (first | apply Kd.R_alloc | apply Kd.R_drewN | apply Kd.R_drew)); exact HO_13.out))) (below_size (by repeat (first | (with_reducible first | exact HB.out | apply below_alloc | apply pw_below_drewN | apply below_drew1) | exact HB.out)))); have n2_ := Aside0.mk (below_step (by repeat (first | (with_reducible first | exact HB.out | apply below_alloc | apply pw_below_drewN | apply below_drew1) | exact HB.out)) hb); clear HO_13; clear HB; have HO_13 := n0_; have HO1118 := n1_; have HB := n2_; clear n0_ n1_ n2_; (try clear hb); (try clear hb2); (try clear hk); (try clear hi); (try clear ho0); obtain ⟨Ao24, co24, eo24⟩ := Kd.R_slice HO1118.out; subst eo24) | ((with_reducible refine gate_callee (f := 17) rfl ?_); refine goesL_ (some 51) rfl rfl Try.func17 (by kernel_rfl) rfl #[.slice Ao16 t1111.length co16, .slice Ao24 t1116.length co24] rfl (by (try simp only [List.map_toArray, List.map_cons, List.map_nil]); first | done | rfl | (simp only [List.length_drop, List.length_take]; rfl)) ?_; (with_reducible refine (laws_eqIntS.calls kj10 _ _ t1111 _ _ t1116 true _ ?side1 ?side2 ?side3 ?side4 A21.out).mono ?_); (case side1 => repeat (first | exact (Kd.R_reads' HO_13.out).2.2 | (with_reducible refine Kd.C_alloc ?_ _) | (with_reducible refine Kd.C_drewN ?_ _) | (with_reducible refine Kd.C_drew ?_))); (case side2 => exact (Kd.R_reads' HO_13.out).2.1); (case side3 => repeat (first | exact (Kd.R_reads' HO1118.out).2.2 | (with_reducible refine Kd.C_alloc ?_ _) | (with_reducible refine Kd.C_drewN ?_ _) | (with_reducible refine Kd.C_drew ?_))); (case side4 => exact (Kd.R_reads' HO1118.out).2.1); rintro e w' ⟨rfl, ⟨nd, rfl⟩⟩; refine ⟨_, rfl, ?_⟩))
            go_ret
            exact ⟨by first | rfl | (simp [errW_none, errW_some] <;> rfl) | (simp [*, errW_none, errW_some] <;> rfl), by repeat (first | (with_reducible first | exact HB.out | apply below_alloc | apply pw_below_drewN | apply below_drew1) | exact HB.out)⟩
          · replace c22 := Bool.eq_false_iff.mpr c22
            subst c22
            have H1 : (none) = some r := by rw [if_neg (show ¬ (false = true) by decide)] at H; exact H
            clear H
            have H := H1
            clear H1
            exact absurd H (by simp)
def laws_FnExactPairThrowsUsed.Pure : Prop := ∀ (a0 : Int) (a1 : Int) (a2 : Int) (a3 : Int) (l4 : List Int), (Lit.int .i64 a0).wf = true → (Lit.int .i64 a1).wf = true → (Lit.int .i64 a2).wf = true → (Lit.int .i64 a3).wf = true → l4.length ≤ maxLen → l4.length * 8 ≤ 140737488351232 → (∀ x ∈ l4, (Lit.int .i64 x).wf = true) → ∃ k, laws_FnExactPairThrowsUsed.f k a0 a1 a2 a3 l4 = some true
theorem laws_FnExactPairThrowsUsed.walk (P : laws_FnExactPairThrowsUsed.Pure) (a0 : Int) (a1 : Int) (a2 : Int) (a3 : Int) (a4 : Option Addr) (len4 cap4 : Nat) (z4 : List Int) (w : World) (w0 : (Lit.int .i64 a0).wf = true) (w1 : (Lit.int .i64 a1).wf = true) (w2 : (Lit.int .i64 a2).wf = true) (w3 : (Lit.int .i64 a3).wf = true) (w4 : (a4 = none ∧ len4 = 0 ∧ cap4 = 0 ∧ z4 = []) ∨ ∃ x, a4 = some x ∧ len4 ≤ cap4 ∧ cap4 ≤ maxLen ∧ z4.length = cap4 ∧ (∀ i, i < z4.length → w.cell? (x.add i) = some (.int .i64 (z4.getD i 0))) ∧ ∀ n ∈ z4, (Lit.int .i64 n).wf = true) (y4 : len4 * 8 ≤ 140737488351232) :
    Calls Try.prog 6 #[.int .i64 a0, .int .i64 a1, .int .i64 a2, .int .i64 a3, .slice a4 len4 cap4] w fun e w' => e = .returned (.bool true) ∧ Below w.heap.size w w' := by
  obtain ⟨l4, rfl, hr4, hm4, hw4, hc4⟩ := ReadsInt.ofRowC w4
  obtain ⟨k, h⟩ := P a0 a1 a2 a3 l4 w0 w1 w2 w3 hm4 y4 hw4
  refine (laws_FnExactPairThrowsUsed.calls k a0 a1 a2 a3 _ _ l4 true w (Kd.C_of_reads (d := (0 : Int)) (h1 := fun _ => rfl) hr4) hc4 h).mono ?_
  rintro e w' ⟨rfl, hd⟩
  exact ⟨rfl, hd⟩
end Go.Proofs.Ytgahigmpcgfbeaa.P
end

section
namespace Go.Proofs.Ytgahigmpcgfbeaa.P
open Go.RowKit Go.Proofs.YtgahigmpcgfbeaaW.PrintWords Go.Proofs.YtgahigmpcgfbeaaW.PrintLast Go.Proofs.YtgahigmpcgfbeaaW.PrintMore
attribute [local go_sem] max2_int min2_int max_two min_two max_three min_three max_four min_four
set_option linter.unusedVariables false
set_option linter.unusedSimpArgs false
def laws_markIntS.l0 : Nat → List Int → Int → Int → Option (Int × List Int)
  | 0, _, _, _ => none
  | k + 1, x0, x1, x5 => if x5 < (x0.length : Int) then (if 0 ≤ x5 then (laws_markIntS.l0 k (x0.set (x5 : Int).toNat x1) (wrap64 (x1 + 1)) (wrap64 (x5 + 1))) else (none)) else (some (x1, x0))
def laws_markIntS.f (k : Nat) (l0 : List Int) (a1 : Int) : Option (Int × List Int) := laws_markIntS.l0 k l0 a1 0
theorem laws_markIntS.mono_l : ∀ k, (∀ y0 y1 y2, LeO (laws_markIntS.l0 k y0 y1 y2) (laws_markIntS.l0 (k + 1) y0 y1 y2))
  | 0 => fun _ _ _ r h => by simp [laws_markIntS.l0] at h
  | k + 1 => by
    have ih0 := laws_markIntS.mono_l k
    · intro y0 y1 y2
      unfold laws_markIntS.l0
      repeat' first
      | (with_reducible exact ih0 _ _ _)
      | (with_reducible exact LeO.refl _)
      | (with_reducible exact LeO.none _)
      | (with_reducible refine LeO.ite ?_ ?_)
      | (with_reducible refine LeO.bind ?_ (fun _ => ?_))
      | exact ih0 _ _ _
      | exact LeO.none _
      | refine LeO.ite ?_ ?_
      | refine LeO.bind ?_ (fun _ => ?_)
theorem laws_markIntS.mono : ∀ a0 a1 k, LeO (laws_markIntS.f k a0 a1) (laws_markIntS.f (k + 1) a0 a1) := by
  intro a0 a1 k
  have ih0 := laws_markIntS.mono_l k
  unfold laws_markIntS.f
  repeat' first
      | (with_reducible exact ih0 _ _ _)
      | (with_reducible exact LeO.refl _)
      | (with_reducible exact LeO.none _)
      | (with_reducible refine LeO.ite ?_ ?_)
      | (with_reducible refine LeO.bind ?_ (fun _ => ?_))
      | exact ih0 _ _ _
      | exact LeO.none _
      | refine LeO.ite ?_ ?_
      | refine LeO.bind ?_ (fun _ => ?_)
set_option maxHeartbeats 8000000 in
set_option maxRecDepth 100000 in
theorem laws_markIntS.calls (k : Nat) (P0_ : Nat → Prop) (u9000_ : Value) (l0 : List Int) (a1 : Int) (r1 : Int) (r2 : List Int) (w0 w : World) (hB : Below w0.heap.size w0 w) (ho0 : Kd.R (Kd.int .i64) 3 w w0.heap.size P0_ u9000_ l0) (h : laws_markIntS.f k l0 a1 = some (r1, r2)) :
    Calls Try.prog 20 #[u9000_, .int .i64 a1] w fun e w' => e = .returned (.int .i64 r1) ∧ Kd.R (Kd.int .i64) 3 w' w0.heap.size (fun k_ => (P0_ k_ ∨ w.heap.size ≤ k_)) u9000_ r2 ∧ Below w0.heap.size w0 w' ∧ Kept w w' (fun k_ => P0_ k_) := by
  have HO0 := Aside0.mk (show Kd.R (Kd.int .i64) 3 w w0.heap.size (fun k_ => (P0_ k_ ∨ w.heap.size ≤ k_)) u9000_ l0 from Kd.R_mono ho0 (fun k_ hk => (.inl hk)))
  have HK := Aside0.mk (Kept.refl w (fun k_ => P0_ k_))
  have HW0 := Aside0.mk hB.size
  have HB := Aside0.mk hB
  clear hB
  have H : (laws_markIntS.l0 k l0 a1 0) = some (r1, r2) := h
  clear h
  have H' := Aside0.mk H
  clear H
  go_enter Try.func20, Try.ntmps20
  go_wp2
  go_loopg [1, 5] k (fun kq v1 v5 w' => ∃ (x0_1 : List Int) (x1_1 : Int) (x5_1 : Int), v1 = .int .i64 x1_1 ∧ v5 = .int .i64 x5_1 ∧ Aside0 (laws_markIntS.l0 kq x0_1 x1_1 x5_1 = some (r1, r2)) ∧ Aside0 (kq ≤ k) ∧ Aside0 (Kd.R (Kd.int .i64) 3 w' w0.heap.size (fun k_ => (P0_ k_ ∨ w.heap.size ≤ k_)) u9000_ x0_1) ∧ Aside0 (Kept w w' (fun k_ => P0_ k_)) ∧ Aside0 (Below w0.heap.size w0 w'))
  case atStart => exact ⟨(l0), (a1), (0), (by first | rfl | (simp; done) | (simp [*]; done)), (by first | rfl | (simp; done) | (simp [*]; done)), H', ⟨Nat.le_refl _⟩, ⟨by (with_reducible repeat (first | apply Kd.R_alloc | apply Kd.R_drewN | apply Kd.R_drew)); exact HO0.out⟩, ⟨by repeat (first | (with_reducible first | exact HK.out | apply Kept.alloc | apply Kept.drewN | apply Kept.drew) | exact HK.out)⟩, ⟨by repeat (first | (with_reducible first | exact HB.out | apply below_alloc | apply pw_below_drewN | apply below_drew1) | exact HB.out)⟩⟩
  case round =>
    clear H'
    try clear c2
    try clear p2
    obtain ⟨x0_1, x1_1, x5_1, rfl, rfl, HA, HK1, HO_0, HK, HB⟩ := hrel
    cases gk with
    | zero => exact absurd HA.out (by simp [laws_markIntS.l0])
    | succ k1 =>
      have H := HA.out
      clear HA
      simp only [laws_markIntS.l0] at H
      by_cases c3 : x5_1 < (x0_1.length : Int)
      · rw [if_pos c3] at H
        have c3b0 : decide (x5_1 < (x0_1.length : Int)) = true := decide_eq_true c3
        clear c3
        by_cases c4 : 0 ≤ x5_1
        · rw [if_pos c4] at H
          have c4b0 : decide (0 ≤ x5_1) = true := decide_eq_true c4
          clear c4
          obtain ⟨y205, hy205⟩ : ∃ y_ : List Int, y_ = (x0_1.set (x5_1 : Int).toNat x1_1) := ⟨_, rfl⟩
          replace H : (laws_markIntS.l0 k1 y205 (wrap64 (x1_1 + 1)) (wrap64 (x5_1 + 1))) = some (r1, r2) := by first | (rw [hy205]; with_reducible exact H) | (have H2_ := (Option.bind_some _ _).symm.trans H; rw [hy205]; with_reducible exact H2_) | (have H2_ := (Option.bind_some _ _).symm.trans H; with_reducible exact H2_) | with_reducible exact H | (rw [hy205]; exact H) | exact H
          have Ny205 := Aside0.mk hy205
          clear hy205
          have H' := Aside0.mk H
          clear H
          obtain ⟨Ao6, co6, eo6⟩ := Kd.R_slice HO_0.out
          subst eo6
          have p5 : 0 ≤ (x5_1 : Int) := of_decide_eq_true (by first | (with_reducible assumption) | assumption)
          have q5 : (x5_1 : Int) < ((x0_1.length : Int) : Int) := of_decide_eq_true (by first | (with_reducible assumption) | assumption)
          obtain ⟨go5, co5, eo5, gb5, gl5, cl5, HG5⟩ := Kd.R_form HO_0.out (by omega)
          (first | cases eo5 | (injection eo5 with ea_ en_ ec_; (first | subst ea_ | (injection ea_ with ea_; subst ea_)); subst ec_; clear en_))
          have GB5 := Aside0.mk gb5
          have GG5 := Aside0.mk HG5
          clear gb5 gl5 HG5
          have HMgo5 := Aside0.mk (show (P0_ go5 ∨ w.heap.size ≤ go5) from (HO_0.out.1 _ rfl))
          obtain ⟨hx5_0, hf5_0⟩ := Kd.R_celln 0 HO_0.out (x5_1 : Int) p5 q5
          replace p5 := eq_true p5
          replace q5 := eq_true q5
          have HP7 := Kd.R_putg HO_0.out (x5_1 : Int) x1_1
          go_wp2_with (first | ((with_reducible refine gate_store (t := 3) (p := 15) rfl ?_); refine store_event (t := 3) (p := 15) (v := ?vo_w8) (w1 := (wr.setCell ⟨go5, (x5_1 : Int).toNat, none⟩ (.int .i64 x1_1))) ?hg ?ho ?hn ?hr ?_; (case ho => rfl); (case hg => rfl); (case hn => rfl); (case hr => first | (go_simp; done) | (go_simp; rfl)); intro w8 hw; have hg : wr.grownBy w8 (some go5) := (by rw [hw]; exact HP7.2); have hp_ : Kd.R (Kd.int .i64) 3 w8 w0.heap.size (fun k_ => (P0_ k_ ∨ w.heap.size ≤ k_)) (.slice (some ⟨go5, 0, none⟩) x0_1.length co6) y205 := (by rw [hw, Ny205.out]; exact HP7.1); clear HP7; have n0_ := Aside0.mk (hp_); have n1_ := Aside0.mk ((by rw [hw]; exact below_set (HB.out) GB5.out : Below w0.heap.size w0 w8)); have n2_ := Aside0.mk (Kept.of_grown (S := (fun k_ => P0_ k_)) hg (by repeat (first | (with_reducible first | exact HK.out | apply Kept.alloc | apply Kept.drewN | apply Kept.drew) | exact HK.out)) (fun k_ e_ => (HO_0.out.1 k_ e_))); clear HO_0; clear HB; clear HK; have HO_0 := n0_; have HB := n1_; have HK := n2_; clear n0_ n1_ n2_; clear hg hw hp_))
          go_roundg k1
          case measure => have := HK1.out; omega
          case rel => exact ⟨(y205), (wrap64 (x1_1 + 1)), (wrap64 (x5_1 + 1)), (by first | rfl | (simp; done) | (simp [*]; done)), (by first | rfl | (simp; done) | (simp [*]; done)), H', ⟨by have := HK1.out; omega⟩, ⟨by (with_reducible repeat (first | apply Kd.R_alloc | apply Kd.R_drewN | apply Kd.R_drew)); exact HO_0.out⟩, ⟨by repeat (first | (with_reducible first | exact HK.out | apply Kept.alloc | apply Kept.drewN | apply Kept.drew) | exact HK.out)⟩, ⟨by repeat (first | (with_reducible first | exact HB.out | apply below_alloc | apply pw_below_drewN | apply below_drew1) | exact HB.out)⟩⟩
        · rw [if_neg c4] at H
          exact absurd H (by simp)
      · rw [if_neg c3] at H
        have c3b0 : decide (x5_1 < (x0_1.length : Int)) = false := decide_eq_false c3
        clear c3
        simp only [Option.some.injEq, Prod.mk.injEq] at H
        obtain ⟨rfl, rfl⟩ := H
        obtain ⟨Ao9, co9, eo9⟩ := Kd.R_slice HO_0.out
        subst eo9
        go_wp2
        go_ret
        exact ⟨by first | rfl | (simp [errW_none, errW_some] <;> rfl) | (simp [*, errW_none, errW_some] <;> rfl), by (with_reducible repeat (first | apply Kd.R_alloc | apply Kd.R_drewN | apply Kd.R_drew)); exact HO_0.out, by repeat (first | (with_reducible first | exact HB.out | apply below_alloc | apply pw_below_drewN | apply below_drew1) | exact HB.out), by repeat (first | (with_reducible first | exact HK.out | apply Kept.alloc | apply Kept.drewN | apply Kept.drew) | exact HK.out)⟩
end Go.Proofs.Ytgahigmpcgfbeaa.P
end

section
namespace Go.Proofs.Ytgahigmpcgfbeaa.P
open Go.RowKit Go.Proofs.YtgahigmpcgfbeaaW.PrintWords Go.Proofs.YtgahigmpcgfbeaaW.PrintLast Go.Proofs.YtgahigmpcgfbeaaW.PrintMore
attribute [local go_sem] max2_int min2_int max_two min_two max_three min_three max_four min_four
set_option linter.unusedVariables false
set_option linter.unusedSimpArgs false
def laws_heldIntS.l0 : Nat → List Int → Int → Int → Option (Int)
  | 0, _, _, _ => none
  | k + 1, x0, x1, x5 => if x5 < (x0.length : Int) then (if 0 ≤ x5 then (if (rd x0 x5) = x1 then (laws_heldIntS.l0 k x0 (wrap64 (x1 + 1)) (wrap64 (x5 + 1))) else (some (-1))) else (none)) else (some x1)
def laws_heldIntS.f (k : Nat) (l0 : List Int) (a1 : Int) : Option (Int) := laws_heldIntS.l0 k l0 a1 0
theorem laws_heldIntS.mono_l : ∀ k, (∀ y0 y1 y2, LeO (laws_heldIntS.l0 k y0 y1 y2) (laws_heldIntS.l0 (k + 1) y0 y1 y2))
  | 0 => fun _ _ _ r h => by simp [laws_heldIntS.l0] at h
  | k + 1 => by
    have ih0 := laws_heldIntS.mono_l k
    · intro y0 y1 y2
      unfold laws_heldIntS.l0
      repeat' first
      | (with_reducible exact ih0 _ _ _)
      | (with_reducible exact LeO.refl _)
      | (with_reducible exact LeO.none _)
      | (with_reducible refine LeO.ite ?_ ?_)
      | (with_reducible refine LeO.bind ?_ (fun _ => ?_))
      | exact ih0 _ _ _
      | exact LeO.none _
      | refine LeO.ite ?_ ?_
      | refine LeO.bind ?_ (fun _ => ?_)
theorem laws_heldIntS.mono : ∀ a0 a1 k, LeO (laws_heldIntS.f k a0 a1) (laws_heldIntS.f (k + 1) a0 a1) := by
  intro a0 a1 k
  have ih0 := laws_heldIntS.mono_l k
  unfold laws_heldIntS.f
  repeat' first
      | (with_reducible exact ih0 _ _ _)
      | (with_reducible exact LeO.refl _)
      | (with_reducible exact LeO.none _)
      | (with_reducible refine LeO.ite ?_ ?_)
      | (with_reducible refine LeO.bind ?_ (fun _ => ?_))
      | exact ih0 _ _ _
      | exact LeO.none _
      | refine LeO.ite ?_ ?_
      | refine LeO.bind ?_ (fun _ => ?_)
set_option maxHeartbeats 8000000 in
set_option maxRecDepth 100000 in
theorem laws_heldIntS.calls (k : Nat) (A0 : Option Addr) (c0 : Nat) (l0 : List Int) (a1 : Int) (r : Int) (w : World) (hr0 : Kd.C (Kd.int .i64) w A0 l0.length l0) (hc0 : l0.length ≤ c0) (h : laws_heldIntS.f k l0 a1 = some r) :
    Calls Try.prog 21 #[.slice A0 l0.length c0, .int .i64 a1] w fun e w' => e = .returned (.int .i64 r) ∧ Drawn0 w w' := by
  have HR0 := Aside0.mk hr0
  have HC0 := Aside0.mk hc0
  clear hr0 hc0
  have H : (laws_heldIntS.l0 k l0 a1 0) = some r := h
  clear h
  have H' := Aside0.mk H
  clear H
  go_enter Try.func21, Try.ntmps21
  go_wp2
  go_loopg [1, 5] k (fun kq v1 v5 w' => ∃ (x1_1 : Int) (x5_1 : Int), v1 = .int .i64 x1_1 ∧ v5 = .int .i64 x5_1 ∧ Aside0 (laws_heldIntS.l0 kq l0 x1_1 x5_1 = some r) ∧ Aside0 (kq ≤ k) ∧ Drawn0 w w')
  case atStart => exact ⟨(a1), (0), (by first | rfl | (simp; done) | (simp [*]; done)), (by first | rfl | (simp; done) | (simp [*]; done)), H', ⟨Nat.le_refl _⟩, by repeat (first | exact Drawn0.refl _ | apply Drawn0.step)⟩
  case round =>
    clear H'
    try clear c2
    try clear p2
    obtain ⟨x1_1, x5_1, rfl, rfl, HA, HK1, ⟨m1, rfl⟩⟩ := hrel
    cases gk with
    | zero => exact absurd HA.out (by simp [laws_heldIntS.l0])
    | succ k1 =>
      have H := HA.out
      clear HA
      simp only [laws_heldIntS.l0] at H
      by_cases c3 : x5_1 < (l0.length : Int)
      · rw [if_pos c3] at H
        have c3b0 : decide (x5_1 < (l0.length : Int)) = true := decide_eq_true c3
        clear c3
        by_cases c4 : 0 ≤ x5_1
        · rw [if_pos c4] at H
          have c4b0 : decide (0 ≤ x5_1) = true := decide_eq_true c4
          clear c4
          by_cases c5 : (rd l0 x5_1) = x1_1
          · rw [if_pos c5] at H
            have c5b0 : ((rd l0 x5_1) == x1_1) = true := beq_iff_eq.mpr c5
            have c5b1 : ((rd l0 x5_1) != x1_1) = false := bne_eq_false_iff_eq.mpr c5
            clear c5
            have H' := Aside0.mk H
            clear H
            have p206 : 0 ≤ (x5_1 : Int) := of_decide_eq_true (by first | (with_reducible assumption) | assumption)
            have q206 : x5_1 < (l0.length : Int) := of_decide_eq_true (by first | (with_reducible assumption) | assumption)
            obtain ⟨ad206, e206, hx206_0⟩ := Kd.at_int HR0.out x5_1 p206 q206
            cases e206
            replace p206 := eq_true p206
            replace q206 := eq_true q206
            go_wp2
            go_roundg k1
            case measure => have := HK1.out; omega
            case rel => exact ⟨(wrap64 (x1_1 + 1)), (wrap64 (x5_1 + 1)), (by first | rfl | (simp; done) | (simp [*]; done)), (by first | rfl | (simp; done) | (simp [*]; done)), H', ⟨by have := HK1.out; omega⟩, by repeat (first | exact Drawn0.refl _ | apply Drawn0.step)⟩
          · rw [if_neg c5] at H
            have c5b0 : ((rd l0 x5_1) == x1_1) = false := beq_eq_false_iff_ne.mpr c5
            have c5b1 : ((rd l0 x5_1) != x1_1) = true := bne_iff_ne.mpr c5
            obtain rfl := Option.some.inj H
            have p206 : 0 ≤ (x5_1 : Int) := of_decide_eq_true (by first | (with_reducible assumption) | assumption)
            have q206 : x5_1 < (l0.length : Int) := of_decide_eq_true (by first | (with_reducible assumption) | assumption)
            obtain ⟨ad206, e206, hx206_0⟩ := Kd.at_int HR0.out x5_1 p206 q206
            cases e206
            replace p206 := eq_true p206
            replace q206 := eq_true q206
            go_wp2
            go_ret
            exact ⟨by first | rfl | (simp; done) | (simp [*]; done), by repeat (first | exact Drawn0.refl _ | apply Drawn0.step)⟩
        · rw [if_neg c4] at H
          exact absurd H (by simp)
      · rw [if_neg c3] at H
        have c3b0 : decide (x5_1 < (l0.length : Int)) = false := decide_eq_false c3
        clear c3
        obtain rfl := Option.some.inj H
        go_wp2
        go_ret
        exact ⟨by first | rfl | (simp; done) | (simp [*]; done), by repeat (first | exact Drawn0.refl _ | apply Drawn0.step)⟩
end Go.Proofs.Ytgahigmpcgfbeaa.P
end
